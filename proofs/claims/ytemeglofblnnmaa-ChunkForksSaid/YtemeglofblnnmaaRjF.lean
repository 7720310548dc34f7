/- A part is told to both joiners; do both have the same? -/
import Derived.Test.YtemeglofblnnmaaRjE
import Derived.Test.YtemeglofblnnmaaJnZ
namespace Go.Proofs.Ytemeglofblnnmaa
open Go.RowKit Go.Lib
set_option linter.unusedVariables false
set_option linter.unusedSimpArgs false
set_option maxRecDepth 100000
attribute [local go_sem ↓] Go.wp_at_zero Go.wp_at_succ

/-- Both joiners, side by side, of what was made since there were N blocks: the program's lies in g, R (its row) and S (parts), the reference's in Sr. -/
structure PJ (N : Nat) (R S Sr : Nat → Prop) (w : World) (g : Nat) (v : Value) (J : Jn) : Prop where
  j : JoinAt R S w g J
  r : RJ w Sr v J
  gl : N ≤ g ∧ g < w.heap.size
  rl : ∀ k, R k → N ≤ k ∧ k < w.heap.size
  sl : ∀ k, S k → N ≤ k ∧ k < w.heap.size
  srl : ∀ k, Sr k → N ≤ k ∧ k < w.heap.size
  sep : ∀ k, Sr k → k ≠ g ∧ ¬ R k
theorem PJ.only {N : Nat} {R S Sr F : Nat → Prop} {w w' : World} {g : Nat} {v : Value} {J : Jn} (h : PJ N R S Sr w g v J) (ho : Only F w w') (hg : ¬ F g) (hR : ∀ k, R k → ¬ F k) (hS : ∀ k, S k → ¬ F k) (hSr : ∀ k, Sr k → ¬ F k) : PJ N R S Sr w' g v J :=
  have hz := ho.size
  ⟨h.j.only ho hg hR hS, h.r.only ho hSr, ⟨h.gl.1, by have := h.gl.2; omega⟩, fun k hk => ⟨(h.rl k hk).1, by have := (h.rl k hk).2; omega⟩, fun k hk => ⟨(h.sl k hk).1, by have := (h.sl k hk).2; omega⟩, fun k hk => ⟨(h.srl k hk).1, by have := (h.srl k hk).2; omega⟩, h.sep⟩
theorem PJ.noth {N : Nat} {R S Sr : Nat → Prop} {w w' : World} {g : Nat} {v : Value} {J : Jn} (h : PJ N R S Sr w g v J) (ho : Only Noth w w') : PJ N R S Sr w' g v J := h.only ho (fun h => h) (fun _ _ h => h) (fun _ _ h => h) (fun _ _ h => h)
/-- What add leaves. -/
structure PNext (N : Nat) (R S Sr : Nat → Prop) (w w' : World) (g : Nat) (v : Value) (J : Jn) : Prop where
  ex : ∃ R' S' Sr', PJ N R' S' Sr' w' g v J ∧ (∀ k, R' k → R k ∨ w.heap.size ≤ k) ∧ (∀ k, S' k → S k ∨ w.heap.size ≤ k) ∧ (∀ k, Sr' k → Sr k ∨ w.heap.size ≤ k)
  only : Only (fun k => k = g ∨ R k) w w'
set_option maxHeartbeats 16000000 in
theorem add_at (N : Nat) (R S Sr Sa : Nat → Prop) (w : World) (g : Nat) (v : Value) (J : Jn) (frm : Int) (p : Pt) (pv : Value) (h : PJ N R S Sr w g v J) (hlost : J.lost ≤ 1000000) (hf0 : 0 ≤ frm) (hb : BsAt w Sa pv p.bs) (hbl : p.bs.length ≤ 20000) (hSa : ∀ k, Sa k → k < N) :
    Calls Try.prog 17 #[.pointer (some ⟨g, 0, none⟩), v, .agg #[.int .u16 frm, .int .i64 p.id, .int .i64 p.idx, .int .i64 p.cnt, pv]] w fun e w' => ∃ v', e = .returned (.tuple #[v', .bool true]) ∧ PNext N R S Sr w w' g v' (jadd J frm p).1 := by
  obtain ⟨u, rfl, hT⟩ := h.r
  have HP := Lib.hid h
  have HRT := Lib.hid hT
  obtain ⟨C, cc, rfl, hsrc, hcl, hcm⟩ := hb
  have HB := Lib.hid (show BsAt w Sa (.slice C p.bs.length cc) p.bs from ⟨C, cc, rfl, hsrc, hcl, hcm⟩)
  have HSa := Lib.hid hSa
  have HNG := Lib.hid h.gl
  obtain ⟨A, c, rfl⟩ := hT.shape
  obtain ⟨n, hn⟩ : ∃ n, J.T.length = n := ⟨_, rfl⟩
  have HN := Lib.hid hn
  obtain ⟨m, hm⟩ : ∃ m, p.bs.length = m := ⟨_, rfl⟩
  have HM := Lib.hid hm
  rw [hn, hm]
  rw [hm] at hbl
  obtain ⟨W0, hW0⟩ : ∃ W, ((w.alloc (.cells #[.slice A n c, .int .i64 J.lost] 48)).alloc (.cells #[.int .u16 frm, .int .i64 p.id, .int .i64 p.idx, .int .i64 p.cnt, .slice C m cc] 52)).alloc (.cells #[.slice none 0 0, .int .i64 0] 48) = W := ⟨_, rfl⟩
  have o3 : Only Noth w W0 := by rw [← hW0]; exact (((Only.refl Noth w).alloc _).alloc _).alloc _
  have RB := Lib.hid (show Hld W0 w.heap.size 48 #[.slice A n c, .int .i64 J.lost] by rw [← hW0]; exact ((Hld.new w _ _).alloc _).alloc _)
  have TA := Lib.hid (show Hld W0 (w.heap.size + 1) 52 #[.int .u16 frm, .int .i64 p.id, .int .i64 p.idx, .int .i64 p.cnt, .slice C m cc] by
    have := (Hld.new (w.alloc (.cells #[.slice A n c, .int .i64 J.lost] 48)) 52 #[.int .u16 frm, .int .i64 p.id, .int .i64 p.idx, .int .i64 p.cnt, .slice C m cc]).alloc (.cells #[.slice none 0 0, .int .i64 0] 48)
    rw [hW0] at this
    simpa using this)
  have RO := Lib.hid (show Hld W0 (w.heap.size + 2) 48 #[.slice none 0 0, .int .i64 0] by
    have := Hld.new ((w.alloc (.cells #[.slice A n c, .int .i64 J.lost] 48)).alloc (.cells #[.int .u16 frm, .int .i64 p.id, .int .i64 p.idx, .int .i64 p.cnt, .slice C m cc] 52)) 48 #[.slice none 0 0, .int .i64 0]
    rw [hW0] at this
    simpa using this)
  have HZ0 := Lib.hid (show W0.heap.size = w.heap.size + 3 by rw [← hW0]; simp)
  have O0 := Lib.hid o3
  have a0 := TA.out.cell 0
  have a1 := TA.out.cell 1
  have a2 := TA.out.cell 2
  have a3 := TA.out.cell 3
  have a4 := TA.out.cell 4
  clear h hT hsrc hcl hcm hSa hn hm o3
  go_enter Try.func17, Try.ntmps17
  go_upto_region 2 with (refine wpList_store_whole rfl rfl 34 (.tmp 8) (.tmp 18) rfl W0.heap.size rfl _ rfl 34 _ (Hld.new W0 _ _) rfl (by simp [Value.oneCell']) (by kernel_rfl) ?_; intro w5 gb ho5 hz5; have T8 := Lib.hid gb; have O15 := Lib.hid ho5; clear gb ho5 hz5)
  clear a0 a1 a2 a3 a4 hW0
  have ho5 : Only Noth W0 w5 := ((Only.refl Noth W0).alloc _).trans O15.out (fun j hj hl => by have hj : j = W0.heap.size := hj; omega)
  have O5 := Lib.hid ho5
  obtain ⟨i1, hti1, hy0, hy1, hy2⟩ := info_parts bytinfo
  have HY0 := Lib.hid hy0
  have HY1 := Lib.hid hy1
  have HY2 := Lib.hid hy2
  have HSRC := Lib.hid (show Src w5 Sa 1 C m (byteCs p.bs) from by
    obtain ⟨C', cc', e, hs, _, _⟩ := (HB.out.noth O0.out).noth ho5
    injection e with e1 _ e3
    subst e1 e3
    rw [HM.out] at hs
    exact hs)
  have HZ5 := Lib.hid (show W0.heap.size < w5.heap.size from T8.out.lt)
  have a4 : (w5.alloc (.cells #[] 5)).cell? ⟨w.heap.size + 1, 4, none⟩ = some (.slice C m cc) := ((TA.out.only ho5 (fun h => h)).alloc _).cell 4
  clear ho5 O15 hy0 hy1 hy2
  go_upto_region 3 with (at_builtin; refine wpList_append_row _ rfl (.tmp 19) (.tmp 22) 22 rfl 5 i1 (.int .u8 0) 1 1 Try.underlying22 hti1 HY0.out HY1.out HY2.out rfl (New w5) _ _ 0 _ rfl (Row.empty _ _ _ _ (some ⟨w5.heap.size, 0, none⟩)) C m cc (byteCs p.bs) rfl (HSRC.out.alloc _) (byteCs_one _) (by simp only [maxLen]; omega) (by omega) ?_; intro v' w9 hrow9 ho9 hz9; obtain ⟨AO, cO, hvO⟩ := hrow9.shape; subst hvO; have HR9 := Lib.hid hrow9; have HO9 := Lib.hid (show Only Noth w5 w9 from (((Only.refl Noth w5).alloc _).trans ho9 (fun j hj hl => by have hj : w5.heap.size ≤ j := hj; omega))); have HT9 := Lib.hid (T8.out.only HO9.out (fun h => h)); have s0 := HT9.out.cell 3; have s1 := HT9.out.free 3; clear hrow9 ho9 hz9)
  have T10 := Lib.hid (show Hld (w9.setCell ⟨W0.heap.size, 3, none⟩ (.slice AO m cO)) W0.heap.size 34 #[.int .i64 p.id, .int .i64 p.idx, .int .i64 p.cnt, .slice AO m cO] from by simpa using HT9.out.set_ 3 (.slice AO m cO))
  have h910 := (Only.refl (fun k => k = W0.heap.size) w9).setCell (p := ⟨W0.heap.size, 3, none⟩) (fun _ => rfl) (.slice AO m cO)
  have O10 := Lib.hid (show Only Noth W0 (w9.setCell ⟨W0.heap.size, 3, none⟩ (.slice AO m cO)) from (O5.out.tr HO9.out).trans h910 (fun j hj hl => by have hj : j = W0.heap.size := hj; omega))
  have OW10 := Lib.hid (show OwnB (w9.setCell ⟨W0.heap.size, 3, none⟩ (.slice AO m cO)) (fun k => W0.heap.size < k ∧ k < (w9.setCell ⟨W0.heap.size, 3, none⟩ (.slice AO m cO)).heap.size) (.slice AO m cO) p.bs from by
    have h9 := HR9.out
    rw [Nat.zero_add, List.nil_append] at h9
    refine ⟨?_, by rw [HM.out]; omega⟩
    rw [HM.out]
    refine ((h9.mono (G := fun k => W0.heap.size < k) (fun k hk _ => ?_)).only h910 (fun k hk e => by have e : k = W0.heap.size := e; omega)).mono (fun k hk hl => ⟨hk, hl⟩)
    rcases hk with hk | hk
    · have hk : w5.heap.size ≤ k := hk
      have := HZ5.out
      omega
    · have h1 := hk.1
      simp only [World.size_alloc] at h1
      have := HZ5.out
      omega)
  obtain ⟨W10, hW10⟩ : ∃ W, w9.setCell ⟨W0.heap.size, 3, none⟩ (.slice AO m cO) = W := ⟨_, rfl⟩
  rw [hW10] at T10 O10 OW10 ⊢
  have OO := Lib.hid (O0.out.tr O10.out)
  have HJ10 := Lib.hid (HP.out.j.only OO.out (fun h => h) (fun _ _ h => h) (fun _ _ h => h))
  obtain ⟨b8, hb8⟩ : ∃ b8, W0.heap.size = b8 := ⟨_, rfl⟩
  rw [hb8] at T10 OW10 HZ0 HZ5 ⊢
  have HB8 := Lib.hid hb8
  have q0 := T10.out.cell 0
  have q1 := T10.out.cell 1
  have q2 := T10.out.cell 2
  have q3 := T10.out.cell 3
  have r0 := (TA.out.only O10.out (fun h => h)).cell 0
  clear hW10 h910 HR9 HO9 HT9 s0 s1 a4 hti1 T8 hb8 HSRC
  go_wp2_with fail
  refine (add_run R S (fun k => b8 < k ∧ k < W10.heap.size) g J frm p.id p.idx p.cnt p.bs (.slice AO m cO) W10 HJ10.out hf0 hlost OW10.out.bs (fun b hb => by have h1 := HP.out.gl.2; have h2 := HZ0.out; exact ⟨by omega, fun hr => by have := (HP.out.rl b hr).2; omega⟩)).mono ?_
  rintro e w11 ⟨⟨uv, rfl, hu⟩, hj, ho⟩
  obtain ⟨AU, cU, rfl, hu2⟩ := hu
  obtain ⟨Jr, hJr⟩ : ∃ Jr, jadd J frm ⟨p.id, p.idx, p.cnt, p.bs⟩ = Jr := ⟨_, rfl⟩
  have hu : BsAt w11 (New W10) (.slice AU (Jr.2.1.getD []).length cU) (Jr.2.1.getD []) := by rw [← hJr]; exact ⟨AU, cU, rfl, hu2⟩
  rw [hJr] at hj
  have hJr2 : jadd J frm p = Jr := hJr
  rw [hJr]
  have HJR := Lib.hid hJr2
  have UV := Lib.hid hu
  have HJ11 := Lib.hid hj
  have O11 := Lib.hid ho
  have hlow : ∀ b, w.heap.size ≤ b → ¬ (b = g ∨ R b) := fun b hb hr => by
    have h1 := HP.out.gl.2
    rcases hr with hr | hr
    · omega
    · have := (HP.out.rl b hr).2
      omega
  have HLOW := Lib.hid hlow
  have T11 := Lib.hid (T10.out.only ho (hlow _ (by have := HZ0.out; omega)))
  have BS := Lib.hid (bump_start (OW10.out.only ho (fun b hb => hlow b (by have := HZ0.out; omega))) HM.out)
  have TB8 := Lib.hid (show b8 < W10.heap.size from T10.out.lt)
  have hm0 : (0 : Int) ≤ m := by omega
  clear hu hu2 hj ho hlow hJr hJr2 q0 q1 q2 q3 r0 HJ10
  go_wp2_with fail
  go_loopw [12] (fun i W => ∃ j : Nat, j ≤ m ∧ i = .int .i64 (j : Int) ∧ Hid (Bump w11 (fun k => b8 < k ∧ k < W10.heap.size) AO m W)) (fun i _ => m - (RowKit.intOf i).toNat)
  case atStart => exact ⟨0, Nat.zero_le _, rfl, BS⟩
  case round =>
    obtain ⟨j, hj, rfl, BK⟩ := hrel
    have hj0 : (0 : Int) ≤ j := by omega
    have q3 : wr.cell? ⟨b8, 3, none⟩ = some (.slice AO m cO) := (T11.out.only BK.out.1 (fun h => by omega)).cell 3
    by_cases hjm : j < m
    · have hj1 : (j : Int) < m := by omega
      obtain ⟨g1, z, hA, hDg, e1, e2, e3⟩ := BK.out.at_ hjm
      subst hA
      have E3 := Lib.hid e3
      clear e3 hDg
      go_wp2_with fail
      go_roundw
      case rel => exact ⟨j + 1, by omega, by go_num, Lib.hid (E3.out _)⟩
      case measure => simp [RowKit.intOf]; omega
    · obtain rfl : j = m := by omega
      have O12 := Lib.hid BK.out.1
      have hGF : ∀ b, b ≤ b8 ∨ W10.heap.size ≤ b → ¬ (b8 < b ∧ b < W10.heap.size) := fun b hb h => by omega
      have HZA := Lib.hid (show w.heap.size + 3 = b8 by rw [HZ0.out])
      have hb11 : ∀ {b : Nat} {t : TypeId} {cs : Array Value}, Hld W10 b t cs → w.heap.size ≤ b → b ≤ b8 → Hld wr b t cs := fun h h1 h2 => (h.only O11.out (HLOW.out _ h1)).only O12.out (hGF _ (.inl h2))
      have RB12 := Lib.hid (hb11 (RB.out.only O10.out (fun h => h)) (Nat.le_refl _) (by have := HZA.out; omega))
      have TA12 := Lib.hid (hb11 (TA.out.only O10.out (fun h => h)) (by omega) (by have := HZA.out; omega))
      have RO12 := Lib.hid (hb11 (RO.out.only O10.out (fun h => h)) (by omega) (by have := HZA.out; omega))
      have hN := HNG.out
      have HJ12 := Lib.hid (HJ11.out.only O12.out (hGF _ (.inl (by have := HZA.out; omega))) (fun k hk => by
        rcases hk with hk | hk
        · exact hGF _ (.inl (by have := (HP.out.rl k hk).2; have := HZA.out; omega))
        · exact hGF _ (.inr hk)) (fun k hk => by
        rcases hk with hk | hk
        · exact hGF _ (.inl (by have := (HP.out.sl k hk).2; have := HZA.out; omega))
        · exact hGF _ (.inr hk)))
      have hR12 : RJ wr Sr (.agg #[.slice A n c, .int .i64 J.lost]) J := by
        have h1 := ((HP.out.r.noth OO.out).only O11.out (fun k hk hr => by
          rcases hr with hr | hr
          · exact (HP.out.sep k hk).1 hr
          · exact (HP.out.sep k hk).2 hr)).only O12.out (fun k hk => hGF _ (.inl (by have := (HP.out.srl k hk).2; have := HZA.out; omega)))
        rw [HN.out] at h1
        exact h1
      have HR12 := Lib.hid hR12
      have UV12 := Lib.hid (UV.out.only O12.out (fun k hk => hGF _ (.inr hk)))
      have HB12 := Lib.hid (((HB.out.noth OO.out).only O11.out (fun k hk hr => by
          have h0 := HSa.out k hk
          rcases hr with hr | hr
          · omega
          · have := (HP.out.rl k hr).1; omega)).only O12.out (fun k hk => hGF _ (.inl (by have := HSa.out k hk; have := HZA.out; omega))))
      have HZ12 := Lib.hid (show W10.heap.size ≤ wr.heap.size from Nat.le_trans O11.out.size O12.out.size)
      have a0 := TA12.out.cell 0
      have a1 := TA12.out.cell 1
      have a2 := TA12.out.cell 2
      have a3 := TA12.out.cell 3
      have a4 := TA12.out.cell 4
      have r0 := RB12.out.cell 0
      have r1 := RB12.out.cell 1
      clear hb11 hR12 hGF BK BS
      go_wp2_with fail
      refine (radd_run Sr Sa _ J frm p (.slice C j cc) wr HR12.out HP.out.j.2.1 hf0 hlost (by have h := HB12.out; rw [HM.out] at h; exact h) (fun k hk => by have := HSa.out k hk; have := HZA.out; have := HZ12.out; have := TB8.out; omega) (fun k hk => by have := (HP.out.srl k hk).2; have := HZA.out; have := HZ12.out; have := TB8.out; omega)).mono ?_
      rintro e w13 ⟨⟨v', rfl, hr13⟩, ho⟩
      rw [HJR.out] at hr13 ⊢
      obtain ⟨u4, rfl, hu4⟩ := hr13
      obtain ⟨A4, c4, rfl⟩ := hu4.shape
      have HU4 := Lib.hid hu4
      obtain ⟨n4, hn4⟩ : ∃ n4, Jr.1.T.length = n4 := ⟨_, rfl⟩
      rw [hn4] at HU4 ⊢
      have HN4 := Lib.hid hn4
      have O13 := Lib.hid ho
      have RO13 := Lib.hid (RO12.out.only ho (fun h => h))
      have UV13 := Lib.hid (UV12.out.noth ho)
      clear a0 a1 a2 a3 a4 r0 r1 hu4 hn4 ho
      obtain ⟨bb, hbb⟩ : ∃ bb, Jr.2.1.isSome = bb := ⟨_, rfl⟩
      obtain ⟨er, her⟩ : ∃ er, Jr.2.2 = er := ⟨_, rfl⟩
      obtain ⟨sl, hsl⟩ : ∃ sl, Jr.2.1.getD [] = sl := ⟨_, rfl⟩
      rw [hsl] at UV13
      simp only [hbb, her, hsl]
      clear hbb her hsl
      go_wp2_with (first | (refine wpList_store_whole rfl rfl 48 (.tmp 13) (.tmp 55) rfl w13.heap.size rfl _ rfl 48 _ (Hld.new w13 _ _) rfl (by simp [Value.oneCell']) (by kernel_rfl) ?_; intro w14 gb ho14 hz14; have O14 := Lib.hid (show Only Noth w13 w14 from ((Only.refl Noth w13).alloc _).trans ho14 (fun j hj hl => by have hj : j = w13.heap.size := hj; omega)); have c0 := gb.cell 0; have c1 := gb.cell 1; have kc := BsAt.conv (UV13.out.noth O14.out); have RO14 := Lib.hid (RO13.out.only O14.out (fun h => h)); clear gb ho14 hz14) |
        (refine wpList_store_whole rfl rfl 48 (.tmp 6) (.tmp 59) rfl (w.heap.size + 2) rfl _ rfl 48 _ RO14.out rfl (by simp [Value.oneCell']) (by kernel_rfl) ?_; intro w15 gr ho15 hz15; have OR := Lib.hid ho15; have y0 : w15.cell? ⟨w.heap.size + 1 + 1, 0, none⟩ = some (.slice A4 n4 c4) := gr.cell 0; have y1 : w15.cell? ⟨w.heap.size + 1 + 1, 1, none⟩ = some (.int .i64 Jr.1.lost) := gr.cell 1; clear gr ho15 hz15))
      refine bodyPost_ret (v := .tuple #[.agg #[.slice A4 n4 c4, .int .i64 Jr.1.lost], .bool true]) (by simp [results, Try.results17, go_sem, y0, y1]) rfl ?_
      have hZ := HZA.out
      have hT8 := TB8.out
      have hz12 := HZ12.out
      have hgl := HP.out.gl
      have hrl := HP.out.rl
      have hsl := HP.out.sl
      have hsr := HP.out.srl
      have hzw := ((O13.out.tr O14.out).size)
      have hz15 := OR.out.size
      have hZ15 : wr.heap.size ≤ w15.heap.size := by omega
      have hF : Only (fun k => k = w.heap.size + 2) wr w15 := ((O13.out.tr O14.out).mono (fun _ h _ => h.elim)).trans OR.out (fun j hj _ => hj)
      rw [HJR.out]
      refine ⟨_, rfl, ⟨fun k => R k ∨ (W10.heap.size ≤ k ∧ k < wr.heap.size), fun k => S k ∨ (W10.heap.size ≤ k ∧ k < wr.heap.size), fun k => Sr k ∨ (wr.heap.size ≤ k ∧ k < w15.heap.size), ⟨?_, ?_, ⟨hgl.1, by omega⟩, fun k hk => ?_, fun k hk => ?_, fun k hk => ?_, fun k hk => ?_⟩, fun k hk => ?_, fun k hk => ?_, fun k hk => ?_⟩, ?_⟩
      · refine (HJ12.out.tight (fun k hk hl => ?_) (fun k hk hl => ?_) (fun h => ?_) (fun h => ?_)).only hF (fun e => by omega) (fun k hk e => ?_) (fun k hk e => ?_)
        · rcases hk with hk | hk
          · exact .inl hk
          · exact .inr ⟨hk, hl⟩
        · rcases hk with hk | hk
          · exact .inl hk
          · exact .inr ⟨hk, hl⟩
        · rcases h with h | h
          · exact HP.out.j.1.1 h
          · omega
        · rcases h with h | h
          · exact HP.out.j.1.2 h
          · omega
        · have e : k = w.heap.size + 2 := e
          rcases hk with hk | hk
          · have := (hrl k hk).2
            omega
          · omega
        · have e : k = w.heap.size + 2 := e
          rcases hk with hk | hk
          · have := (hsl k hk).2
            omega
          · omega
      · refine ⟨_, rfl, ?_⟩
        have h1 : RT w13 (fun b => Sr b ∨ New wr b) (.slice A4 Jr.1.T.length c4) Jr.1.T := by rw [HN4.out]; exact HU4.out
        rw [HN4.out] at h1
        refine (((h1.only O14.out (fun _ _ h => h)).mono (S' := fun k => (Sr k ∨ New wr k) ∧ k < w14.heap.size) (fun k hk hl => ⟨hk, hl⟩)).only OR.out (fun k hk e => ?_)).mono (fun k hk hl => ?_)
        · have e : k = w.heap.size + 2 := e
          rcases hk.1 with hk | hk
          · have := (hsr k hk).2
            omega
          · have hk : wr.heap.size ≤ k := hk
            omega
        · rcases hk.1 with h | h
          · exact .inl h
          · exact .inr ⟨h, hl⟩
      · rcases hk with hk | hk
        · have := hrl k hk
          omega
        · omega
      · rcases hk with hk | hk
        · have := hsl k hk
          omega
        · omega
      · rcases hk with hk | hk
        · have := hsr k hk
          omega
        · omega
      · rcases hk with hk | hk
        · have h1 := HP.out.sep k hk
          refine ⟨h1.1, fun hr => ?_⟩
          rcases hr with hr | hr
          · exact h1.2 hr
          · have := (hsr k hk).2
            omega
        · refine ⟨by omega, fun hr => ?_⟩
          rcases hr with hr | hr
          · have := (hrl k hr).2
            omega
          · omega
      · rcases hk with hk | hk
        · exact .inl hk
        · exact .inr (by omega)
      · rcases hk with hk | hk
        · exact .inl hk
        · exact .inr (by omega)
      · rcases hk with hk | hk
        · exact .inl hk
        · exact .inr (by omega)
      · have e1 : Only (fun k => (k = g ∨ R k) ∨ w.heap.size ≤ k) w W10 := OO.out.mono (fun _ h _ => h.elim)
        have e2 : Only (fun k => (k = g ∨ R k) ∨ w.heap.size ≤ k) W10 w11 := O11.out.mono (fun _ h _ => .inl h)
        have e3 : Only (fun k => (k = g ∨ R k) ∨ w.heap.size ≤ k) w11 wr := O12.out.mono (fun k h _ => .inr (by omega))
        have e4 : Only (fun k => (k = g ∨ R k) ∨ w.heap.size ≤ k) wr w15 := hF.mono (fun k h _ => .inr (by omega))
        exact (((e1.trans e2 (fun _ h _ => h)).trans e3 (fun _ h _ => h)).trans e4 (fun _ h _ => h)).mono (fun j hj hl => by
          rcases hj with h | h
          · exact h
          · omega)
end Go.Proofs.Ytemeglofblnnmaa
