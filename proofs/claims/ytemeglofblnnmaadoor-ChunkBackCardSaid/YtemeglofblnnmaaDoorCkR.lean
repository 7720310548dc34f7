/- Package chunk: bytes are read as a part. -/
import Derived.Test.YtemeglofblnnmaaDoorCkP
import Derived.Test.YtemeglofblnnmaaDoorRdrFZ
import Derived.Test.YtemeglofblnnmaaDoorOffZ
namespace Go.Proofs.YtemeglofblnnmaaDoor
open Go.RowKit Go.Lib
set_option linter.unusedVariables false
set_option linter.unusedSimpArgs false
set_option maxRecDepth 100000
attribute [local go_sem ↓] Go.wp_at_zero Go.wp_at_succ

theorem conv_new (s : List UInt8) (hs : s.length ≤ 1000000) (w : World) : ∃ A c W, (convert 9 22 (.string ⟨s.toArray⟩)).run Tryd.prog w = .ok (.slice A s.length c) W ∧ BsAt W (New w) (.slice A s.length c) s ∧ Only Noth w W := by
  have hr := Go.Lib.run_convert_string_bytes (P := Tryd.prog) w 9 22 5 ⟨s.toArray⟩ Tryd.underlying9 Tryd.underlying22 Tryd.underlying5
  have hz : (ByteArray.mk s.toArray).size = s.length := mk_size s
  have hge := grownCap_ge w s.length 0 5
  have hcm : grownCap w s.length 0 5 ≤ maxLen := grownCap_le_maxLen w s.length 0 5 (by simp only [maxLen]; omega)
  rw [hz] at hr
  refine ⟨_, _, _, hr, ⟨_, _, rfl, ?_, hge, hcm⟩, only_bytes w _ _⟩
  refine ⟨by rw [byteCs_len]; omega, fun hn => ⟨_, rfl, Nat.le_refl _, by rw [bytesWorld_size]; simp, fun j u hu => ?_⟩⟩
  rw [add_plain', Nat.zero_add]
  have hj : j < s.length := by
    have := (List.getElem?_eq_some_iff.1 hu).1
    rwa [byteCs_len] at this
  rw [bytesWorld_cell w _ _ j (by rw [hz]; exact hj), ← hu, byteCs, List.getElem?_map, List.getD]
  simp [hj]
/-- What Read reads. -/
def readD (l : List UInt8) : Pt × Int :=
  let r0 := Rd.byte ⟨l, 0⟩ 108
  let r1 := r0.int
  let r2 := r1.1.int
  let r3 := r2.1.int
  let r4 := r3.1.text 8192
  let r5 := r4.1.byte 101
  if r5.err = 0 ∧ r5.b = [] ∧ (⟨r1.2, r2.2, r3.2, r4.2⟩ : Pt).may = true then (⟨r1.2, r2.2, r3.2, r4.2⟩, 0) else (⟨0, 0, 0, []⟩, 4)
theorem text_long (r : Rd) (m : Nat) : (r.text m).2.length ≤ m := by
  by_cases h : (r.text m).1.err = 0
  · have := (Rd.text_back h).2.2.1
    omega
  · rw [Rd.text_err h]
    simp
/-- What Read hands back. -/
def ReadAns (p : Pt) (er : Int) (w : World) (e : Ending) (w' : World) : Prop := ∃ A c, e = .returned (.tuple #[.agg #[.int .i64 p.id, .int .i64 p.idx, .int .i64 p.cnt, .slice A p.bs.length c], .int .i64 er]) ∧ BsAt w' (New w) (.slice A p.bs.length c) p.bs ∧ Only Noth w w'
theorem Only.trans_new {w w' w'' : World} {g b : Nat} (h : Only (At g) w w') (hg : w.heap.size ≤ g) (k : Only (fun k => k = b) w' w'') (hb : w.heap.size ≤ b) : Only Noth w w'' :=
  (h.mono (G := Noth) (fun j hj hl => by have hj : j = g := hj; omega)).trans k (fun j hj hl => by have hj : j = b := hj; omega)
set_option maxHeartbeats 8000000 in
theorem read_run (A : Option Addr) (c : Nat) (l : List UInt8) (w : World) (hp : Part w (.slice A l.length c) l) (he : Env w) : Calls Tryd.prog 8 #[.slice A l.length c] w (ReadAns (readD l).1 (readD l).2 w) := by
  obtain ⟨r0, h0⟩ : ∃ r, Rd.byte ⟨l, 0⟩ 108 = r := ⟨_, rfl⟩
  obtain ⟨r1, h1⟩ : ∃ r, r0.int = r := ⟨_, rfl⟩
  obtain ⟨r2, h2⟩ : ∃ r, r1.1.int = r := ⟨_, rfl⟩
  obtain ⟨r3, h3⟩ : ∃ r, r2.1.int = r := ⟨_, rfl⟩
  obtain ⟨r4, h4⟩ : ∃ r, r3.1.text 8192 = r := ⟨_, rfl⟩
  obtain ⟨r5, h5⟩ : ∃ r, r4.1.byte 101 = r := ⟨_, rfl⟩
  have hD : readD l = if r5.err = 0 ∧ r5.b = [] ∧ (⟨r1.2, r2.2, r3.2, r4.2⟩ : Pt).may = true then (⟨r1.2, r2.2, r3.2, r4.2⟩, 0) else (⟨0, 0, 0, []⟩, 4) := by
    unfold readD
    simp only [h0, h1, h2, h3, h4, h5]
  have hlong : r4.2.length ≤ 8192 := by rw [← h4]; exact text_long r3.1 8192
  have HD := Lib.hid hD
  have H0 := Lib.hid h0
  have H1 := Lib.hid h1
  have H2 := Lib.hid h2
  have H3 := Lib.hid h3
  have H4 := Lib.hid h4
  have H5 := Lib.hid h5
  obtain ⟨n, hn⟩ : ∃ n, l.length = n := ⟨_, rfl⟩
  have HN := Lib.hid hn
  have BR := Lib.hid (Hld.new w 29 #[.int .i64 0, .int .i64 0, .int .i64 0, .slice none 0 0])
  obtain ⟨W0, hW0⟩ : ∃ W, w.alloc (.cells #[.int .i64 0, .int .i64 0, .int .i64 0, .slice none 0 0] 29) = W := ⟨_, rfl⟩
  rw [hW0] at BR
  have o0 : Only Noth w W0 := by rw [← hW0]; exact (Only.refl Noth w).alloc _
  have HP := Lib.hid (hp.noth o0)
  have HE := Lib.hid (he.noth o0)
  have O0 := Lib.hid o0
  obtain ⟨b0, hb0⟩ : ∃ b0, w.heap.size = b0 := ⟨_, rfl⟩
  have HB0 := Lib.hid hb0
  rw [hb0] at BR
  rw [hn] at HP ⊢
  clear hD h0 h1 h2 h3 h4 h5 hp he o0 hn
  go_enter Tryd.func8, Tryd.ntmps8
  go_wp2_with fail
  refine (by have := rdr_new A c l W0 (by rw [HN.out]; exact HP.out); rw [HN.out] at this; exact this : Calls Tryd.prog 24 #[.slice A n c] W0 _).mono ?_
  rintro e w1 ⟨rfl, hr, ho⟩
  obtain ⟨g, hg⟩ : ∃ g, W0.heap.size = g := ⟨_, rfl⟩
  rw [hg] at hr ⊢
  have HG := Lib.hid hg
  have HBG := Lib.hid (show b0 < g by rw [← hg]; exact BR.out.lt)
  have R0 := Lib.hid hr
  have HI := Lib.hid (show Hi g by rw [← hg]; exact HE.out.hi (Nat.le_refl _))
  have E1 := Lib.hid (HE.out.noth ho)
  have O1 := Lib.hid (O0.out.tr ho)
  have S1 := Lib.hid (show Only (At g) w w1 from Only.at_of O1.out)
  have B1 := Lib.hid (BR.out.only ho (fun h => h))
  clear hr ho hg hb0 hW0
  go_wp2_with fail
  refine (rdr_open g _ _ R0.out).mono ?_
  rintro e w2 ⟨rfl, hr, ho⟩
  rw [H0.out] at hr
  have R1 := Lib.hid hr
  have E2 := Lib.hid (E1.out.at_ ho HI.out)
  have S2 := Lib.hid (S1.out.at_tr ho)
  have B2 := Lib.hid (B1.out.only ho (fun e => by have e : b0 = g := e; have := HBG.out; omega))
  clear hr ho
  go_wp2_with fail
  refine (rdr_int g _ _ R1.out E2.out HI.out).mono ?_
  rintro e w3 ⟨rfl, hr, ho⟩
  rw [H1.out] at hr ⊢
  have RI0 := Lib.hid hr
  have EI0 := Lib.hid (E2.out.at_ ho HI.out)
  have SI0 := Lib.hid (S2.out.at_tr ho)
  have BI0 := Lib.hid (B2.out.only ho (fun e => by have e : b0 = g := e; have := HBG.out; omega))
  clear hr ho
  go_wp2_with fail
  refine (rdr_int g _ _ RI0.out EI0.out HI.out).mono ?_
  rintro e w4 ⟨rfl, hr, ho⟩
  rw [H2.out] at hr ⊢
  have RI1 := Lib.hid hr
  have EI1 := Lib.hid (EI0.out.at_ ho HI.out)
  have SI1 := Lib.hid (SI0.out.at_tr ho)
  have BI1 := Lib.hid (BI0.out.only ho (fun e => by have e : b0 = g := e; have := HBG.out; omega))
  clear hr ho
  go_wp2_with fail
  refine (rdr_int g _ _ RI1.out EI1.out HI.out).mono ?_
  rintro e w5 ⟨rfl, hr, ho⟩
  rw [H3.out] at hr ⊢
  have RI2 := Lib.hid hr
  have EI2 := Lib.hid (EI1.out.at_ ho HI.out)
  have SI2 := Lib.hid (SI1.out.at_tr ho)
  have BI2 := Lib.hid (BI1.out.only ho (fun e => by have e : b0 = g := e; have := HBG.out; omega))
  clear hr ho
  go_wp2_with (refine wpList_store_whole rfl rfl 29 (.tmp 5) (.tmp 16) rfl w5.heap.size rfl _ rfl 29 _ (Hld.new w5 _ _) rfl (by simp [Value.oneCell']) (by kernel_rfl) ?_; intro w6 gb ho6 hz6; have T6 := Lib.hid gb; have O6 := Lib.hid (show Only Noth w5 w6 from ((Only.refl Noth w5).alloc _).trans ho6 (fun j hj hl => by have hj : j = w5.heap.size := hj; omega)); clear gb ho6 hz6)
  obtain ⟨b5, hb5⟩ : ∃ b5, w5.heap.size = b5 := ⟨_, rfl⟩
  rw [hb5] at T6 ⊢
  have HG5 := Lib.hid (show g < b5 by rw [← hb5]; exact RI2.out.lt)
  have HW5 := Lib.hid (show w.heap.size ≤ b5 by rw [← hb5]; exact SI2.out.size)
  have R6 := Lib.hid (RI2.out.noth O6.out)
  have E6 := Lib.hid (EI2.out.noth O6.out)
  have S6 := Lib.hid (SI2.out.at_tr (Only.at_of O6.out))
  have B6 := Lib.hid (BI2.out.only O6.out (fun h => h))
  clear hb5
  refine (rdr_text g _ 8192 _ R6.out E6.out).mono ?_
  rintro e w7 ⟨rfl, hr, ho⟩
  rw [H4.out] at hr ⊢
  have R7 := Lib.hid hr
  have E7 := Lib.hid (E6.out.at_ ho HI.out)
  have S7 := Lib.hid (S6.out.at_tr ho)
  have B7 := Lib.hid (B6.out.only ho (fun e => by have e : b0 = g := e; have := HBG.out; omega))
  have T7 := Lib.hid (T6.out.only ho (fun e => by have e : b5 = g := e; have := HG5.out; omega))
  obtain ⟨s, hs⟩ : ∃ s, r4.2 = s := ⟨_, rfl⟩
  have HS := Lib.hid hs
  rw [hs] at hlong ⊢
  obtain ⟨AS, cS, w8, kc, hbs, ho8⟩ := conv_new s (by omega) w7
  have BS := Lib.hid hbs
  have T8 := Lib.hid (T7.out.only ho8 (fun h => h))
  have O8 := Lib.hid ho8
  have t3 := T8.out.cell 3
  have f3 := T8.out.free 3
  clear hr ho hs hbs ho8
  go_wp2_with fail
  have T9 := Lib.hid (show Hld (w8.setCell ⟨b5, 3, none⟩ (.slice AS s.length cS)) b5 29 #[.int .i64 r1.2, .int .i64 r2.2, .int .i64 r3.2, .slice AS s.length cS] by simpa using T8.out.set_ 3 (.slice AS s.length cS))
  have h89 := (Only.refl (fun k => k = b5) w8).setCell (p := ⟨b5, 3, none⟩) (fun _ => rfl) (.slice AS s.length cS)
  have hW5 := HW5.out
  have hG5 := HG5.out
  obtain ⟨w9, hw9⟩ : ∃ w9, w8.setCell ⟨b5, 3, none⟩ (.slice AS s.length cS) = w9 := ⟨_, rfl⟩
  rw [hw9] at T9 h89 ⊢
  have R9 := Lib.hid (((R7.out.noth O8.out).off T8.out (by intro i n; match i with | 0 => simp | 1 => simp | 2 => simp | 3 => simp | i + 4 => simp) (by omega) h89 : RdAt w9 g r4.1))
  have hb5b : b0 ≠ b5 := by have := HBG.out; omega
  have B9 := Lib.hid ((B7.out.only O8.out (fun h => h)).only h89 hb5b)
  have S9 := Lib.hid (show Only (At g) w w9 from (S7.out.at_tr (Only.at_of O8.out)).trans h89 (fun j hj hl => by have hj : j = b5 := hj; omega))
  have BS9 := Lib.hid ((BS.out.mono (T := fun k => w.heap.size ≤ k ∧ b5 < k) (fun k hk _ => by have hk : w7.heap.size ≤ k := hk; have := T7.out.lt; exact ⟨by omega, by omega⟩)).only h89 (fun k hk e => by have e : k = b5 := e; omega))
  clear h89 hw9 hW5 hb5b t3 f3 kc
  refine (rdr_close g _ _ R9.out).mono ?_
  rintro e w10 ⟨rfl, hr, ho⟩
  rw [H5.out] at hr
  have R10 := Lib.hid hr
  have B10 := Lib.hid (B9.out.only ho (fun e => by have e : b0 = g := e; have := HBG.out; omega))
  have S10 := Lib.hid (S9.out.at_tr ho)
  have T10 := Lib.hid (T9.out.only ho (fun e => by have e : b5 = g := e; omega))
  have BS10 := Lib.hid (BS9.out.only ho (fun k hk e => by have e : k = g := e; omega))
  clear hr ho
  have hret0 : ∀ W : World, readD l = (⟨0, 0, 0, []⟩, 4) → Only (fun k => k = b0) w10 W → ReadAns (readD l).1 (readD l).2 w (.returned (.tuple #[.agg #[.int .i64 0, .int .i64 0, .int .i64 0, .slice none 0 0], .int .i64 4])) W := by
    intro W h ho
    rw [h]
    exact ⟨none, 0, rfl, BsAt.nil _ _, S10.out.trans_new (by rw [← HG.out]; exact O0.out.size) ho (by rw [← HB0.out]; exact Nat.le_refl _)⟩
  have HR0 := Lib.hid hret0
  have HGW := Lib.hid (show w.heap.size ≤ g by rw [← HG.out]; exact O0.out.size)
  clear hret0 hG5
  go_wp2_with fail
  refine (rdr_err g _ _ R10.out).mono ?_
  rintro e w' ⟨rfl, rfl⟩
  by_cases h5 : r5.err = 0
  · have hl0 : (0 : Int) ≤ r5.b.length := by omega
    rw [h5]
    have H5E := Lib.hid h5
    clear h5
    go_wp2_with fail
    refine (rdr_left g _ _ R10.out).mono ?_
    rintro e w' ⟨rfl, rfl⟩
    by_cases hlen : 0 < r5.b.length
    · have hli : (0 : Int) < r5.b.length := by omega
      have HDD := Lib.hid (show readD l = (⟨0, 0, 0, []⟩, 4) by rw [HD.out, if_neg (fun h => by rw [h.2.1] at hlen; simp at hlen)])
      go_wp2_with (refine wpList_store_whole rfl rfl 29 (.tmp 2) (.tmp 36) rfl b0 rfl _ rfl 29 _ B10.out rfl (by simp [Value.oneCell']) (by kernel_rfl) ?_; intro w13 gr ho13 _; have OR := Lib.hid ho13; have y0 := gr.cell 0; have y1 := gr.cell 1; have y2 := gr.cell 2; have y3 := gr.cell 3; clear gr ho13)
      refine bodyPost_ret (v := .tuple #[.agg #[.int .i64 0, .int .i64 0, .int .i64 0, .slice none 0 0], .int .i64 4]) (by simp [results, Tryd.results8, go_sem, y0, y1, y2, y3]) rfl ?_
      exact HR0.out _ HDD.out OR.out
    · have hli : ¬ (0 : Int) < r5.b.length := by omega
      have HNIL := Lib.hid (show r5.b = [] from List.eq_nil_of_length_eq_zero (by omega))
      have t0 := T10.out.cell 0
      have t1 := T10.out.cell 1
      have t2 := T10.out.cell 2
      have t3 := T10.out.cell 3
      clear hlen
      go_wp2_with fail
      refine (may_run ⟨r1.2, r2.2, r3.2, s⟩ AS cS (by simp only [maxLen]; omega) _).mono ?_
      rintro e w11 ⟨rfl, ho⟩
      have B11 := Lib.hid (B10.out.only ho (fun h => h))
      have T11 := Lib.hid (T10.out.only ho (fun h => h))
      have O11 := Lib.hid ho
      obtain ⟨mb, hmb⟩ : ∃ mb, (⟨r1.2, r2.2, r3.2, s⟩ : Pt).may = mb := ⟨_, rfl⟩
      have HMB := Lib.hid hmb
      rw [hmb]
      have u0 := T11.out.cell 0
      have u1 := T11.out.cell 1
      have u2 := T11.out.cell 2
      have u3 := T11.out.cell 3
      clear ho hmb t0 t1 t2 t3
      cases mb
      · have HDD := Lib.hid (show readD l = (⟨0, 0, 0, []⟩, 4) by rw [HD.out, HS.out, if_neg (fun h => by have h2 := h.2.2; rw [HMB.out] at h2; cases h2)])
        go_wp2_with (refine wpList_store_whole rfl rfl 29 (.tmp 2) (.tmp 36) rfl b0 rfl _ rfl 29 _ B11.out rfl (by simp [Value.oneCell']) (by kernel_rfl) ?_; intro w13 gr ho13 _; have OR := Lib.hid ho13; have y0 := gr.cell 0; have y1 := gr.cell 1; have y2 := gr.cell 2; have y3 := gr.cell 3; clear gr ho13)
        refine bodyPost_ret (v := .tuple #[.agg #[.int .i64 0, .int .i64 0, .int .i64 0, .slice none 0 0], .int .i64 4]) (by simp [results, Tryd.results8, go_sem, y0, y1, y2, y3]) rfl ?_
        exact HR0.out _ HDD.out ((O11.out.mono (fun _ h _ => h.elim)).trans OR.out (fun _ h _ => h))
      · have HDD := Lib.hid (show readD l = (⟨r1.2, r2.2, r3.2, s⟩, 0) by rw [HD.out, HS.out, if_pos ⟨H5E.out, HNIL.out, HMB.out⟩])
        go_wp2_with (refine wpList_store_whole rfl rfl 29 (.tmp 2) (.tmp 37) rfl b0 rfl _ rfl 29 _ B11.out rfl (by simp [Value.oneCell']) (by kernel_rfl) ?_; intro w13 gr ho13 _; have OR := Lib.hid ho13; have y0 := gr.cell 0; have y1 := gr.cell 1; have y2 := gr.cell 2; have y3 := gr.cell 3; clear gr ho13)
        refine bodyPost_ret (v := .tuple #[.agg #[.int .i64 r1.2, .int .i64 r2.2, .int .i64 r3.2, .slice AS s.length cS], .int .i64 0]) (by simp [results, Tryd.results8, go_sem, y0, y1, y2, y3]) rfl ?_
        rw [HDD.out]
        have hgw := HGW.out
        have hbw := HB0.out
        have hbg := HBG.out
        have hg5 := HG5.out
        exact ⟨AS, cS, rfl, ((BS10.out.only O11.out (fun _ _ h => h)).only OR.out (fun k hk e => by have e : k = b0 := e; omega)).mono (fun k hk _ => hk.1), (S10.out.trans_new hgw ((O11.out.mono (fun _ h _ => h.elim)).trans OR.out (fun _ h _ => h)) (by omega))⟩
  · have h5b : (r5.err != 0) = true := by simpa using h5
    have HDD := Lib.hid (show readD l = (⟨0, 0, 0, []⟩, 4) by rw [HD.out, if_neg (fun h => h5 h.1)])
    go_wp2_with (refine wpList_store_whole rfl rfl 29 (.tmp 2) (.tmp 36) rfl b0 rfl _ rfl 29 _ B10.out rfl (by simp [Value.oneCell']) (by kernel_rfl) ?_; intro w13 gr ho13 _; have OR := Lib.hid ho13; have y0 := gr.cell 0; have y1 := gr.cell 1; have y2 := gr.cell 2; have y3 := gr.cell 3; clear gr ho13)
    refine bodyPost_ret (v := .tuple #[.agg #[.int .i64 0, .int .i64 0, .int .i64 0, .slice none 0 0], .int .i64 4]) (by simp [results, Tryd.results8, go_sem, y0, y1, y2, y3]) rfl ?_
    exact HR0.out _ HDD.out OR.out
end Go.Proofs.YtemeglofblnnmaaDoor
