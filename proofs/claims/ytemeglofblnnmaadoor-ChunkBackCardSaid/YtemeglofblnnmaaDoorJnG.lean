/- The joiner takes a part. -/
import Derived.Test.YtemeglofblnnmaaDoorJnF
import Derived.Great.BuildSlice
namespace Go.Proofs.YtemeglofblnnmaaDoor
open Go.RowKit Go.Lib
set_option linter.unusedVariables false
set_option linter.unusedSimpArgs false
set_option maxRecDepth 100000
attribute [local go_sem ↓] Go.wp_at_zero Go.wp_at_succ

section
variable {R S : Nat → Prop} {w0 W W' : World} {g : Nat} {J : Jn} {A : Option Addr} {c : Nat} {css : List (List Value)}
theorem St.join (h : St R S w0 W g J A c css) (hok : J.Ok) : JoinAt (fun b => R b ∨ New w0 b) (fun b => S b ∨ New w0 b) W g J := ⟨⟨h.nr, h.ns⟩, hok, A, c, css, h.box, h.row, h.txs⟩
theorem JoinAt.st (h : JoinAt R S w0 g J) : J.Ok ∧ ∃ A c css, St R S w0 w0 g J A c css := by
  obtain ⟨⟨h1, h2⟩, hok, A, c, css, hb, hr, hx⟩ := h
  exact ⟨hok, A, c, css, hb, hr.mono (fun k hk _ => .inl hk), hx.mono (fun k hk _ => ⟨.inl hk.1, hk.2⟩), Only.refl _ _, h1, h2, hb.lt⟩
/-- What Delete leaves. -/
def DelLeft (R S : Nat → Prop) (w0 W W' : World) (g i : Nat) (J : Jn) (A : Option Addr) (c : Nat) (css : List (List Value)) : Prop :=
  Hld W' g 74 #[.slice A J.T.length c, .int .i64 J.lost] ∧ Only (RowB A c) W W' ∧ St R S w0 (W'.setCell ⟨g, 0, none⟩ (.slice A (J.T.length - 1) c)) g ⟨J.T.eraseIdx i, J.lost⟩ A c (css.eraseIdx i)
theorem St.del_call (h : St R S w0 W g J A c css) {i : Nat} (hi : i < J.T.length) : Calls Tryd.prog 37 #[.slice A J.T.length c, .int .i64 (i : Int), .int .i64 ((i : Int) + 1)] W fun e W' => e = .returned (.slice A (J.T.length - 1) c) ∧ DelLeft R S w0 W W' g i J A c css := by
  have hl := h.len
  have hr := h.row
  rw [← hl] at hr
  have hd := del_run A c i css _ h.lens h.one (by rw [hl]; exact hi) W hr
  refine (show Calls Tryd.prog 37 #[.slice A J.T.length c, .int .i64 (i : Int), .int .i64 ((i : Int) + 1)] W _ by rw [← hl]; exact hd).mono ?_
  rintro e W' ⟨rfl, h1, h2⟩
  have hs := h.erase hi h1 h2
  rw [hl] at hs
  exact ⟨by rw [hl], h.box.only h2 (fun hk => (h.row_ne hk).1 rfl), h2, hs⟩
theorem AddLeft.up {S' : Nat → Prop} {V V1 V' : World} {b i : Nat} {cur : Array Value} {t : Tx} (h : AddLeft V1 S' b i cur t V') (hz : V.heap.size ≤ V1.heap.size) : AddLeft V S' b i cur t V' := by
  obtain ⟨cur', cs', h1, h2, h3, h4, h5⟩ := h
  exact ⟨cur', cs', h1, h2, h3, h4, h5.mono (fun k hk _ => by rcases hk with hk | hk; exact .inl hk; exact .inr (Nat.le_trans hz hk))⟩
/-- The block of the row, where there is a text. -/
theorem St.blk (h : St R S w0 W g J A c css) {i : Nat} {t : Tx} (ht : J.T[i]? = some t) : ∃ b cur cs, A = some ⟨b, 0, none⟩ ∧ c ≠ 0 ∧ Hld W b 79 cur ∧ TxIs W (fun b => (S b ∨ New w0 b) ∧ ¬ RowB A c b) cs t ∧ (∀ j u, cs[j]? = some u → cur[i * 132 + j]? = some u) := by
  have hi := (List.getElem?_eq_some_iff.1 ht).1
  obtain ⟨cs, hcs, htx⟩ := h.txs.2 i t ht
  have hl := h.len
  have hlens := h.lens
  obtain ⟨_, A', cap, hv, h1, h2, h3⟩ := h.row
  injection hv with e1 _ e3
  subst e1 e3
  rcases h3 with h3 | ⟨b, cur, hA, _, hg, hc, ht2⟩
  · omega
  · refine ⟨b, cur, cs, hA, by omega, hg, htx, fun j u hj => ?_⟩
    have hjl := (List.getElem?_eq_some_iff.1 hj).1
    rw [htx.len] at hjl
    have h5 := flat_at hlens hcs hjl
    rw [hj, ← ht2, List.getElem?_take] at h5
    split at h5
    · simpa using h5
    · cases h5
theorem Hld.src132 {p : Nat} {cs : List Value} (h : Hld W p 79 cs.toArray) (hl : cs.length = 132) : Src W (fun _ => True) 132 (some ⟨p, 0, none⟩) 1 cs :=
  ⟨by omega, fun _ => ⟨_, rfl, trivial, h.lt, fun j u hu => by rw [add_plain', Nat.zero_add, h.cell j]; simpa using hu⟩⟩
end
theorem Hld.four {w : World} {g : Nat} {t : TypeId} {x0 x1 x2 x3 : Value} (h : Hld w g t #[x0, x1, x2, x3]) : w.cell? ⟨g, 0, none⟩ = some x0 ∧ w.cell? ⟨g, 1, none⟩ = some x1 ∧ w.cell? ⟨g, 2, none⟩ = some x2 ∧ w.cell? ⟨g, 3, none⟩ = some x3 := ⟨h.cell 0, h.cell 1, h.cell 2, h.cell 3⟩
theorem sure_four {ops : Array Oper} {o : Oper} {a : Act} {w0 : World} {F : Nat → Prop} {g : Nat} {x0 x1 x2 x3 : Value} {t : TypeId} (h : Hld w0 g t #[x0, x1, x2, x3]) (hF : ¬ F g) (hw : Region.wanted o (yielded ops a.tmps) = true)
    (he : ∀ w, w.cell? ⟨g, 0, none⟩ = some x0 → w.cell? ⟨g, 1, none⟩ = some x1 → w.cell? ⟨g, 2, none⟩ = some x2 → w.cell? ⟨g, 3, none⟩ = some x3 → (execOp a.eval o).run Tryd.prog w = .ok (.value (.agg #[x0, x1, x2, x3])) w) : Sure Tryd.prog ops (Only Noth) (Only F w0) o (.agg #[x0, x1, x2, x3]) a :=
  sure_value hw (fun w1 k1 => by obtain ⟨h0, h1, h2, h3⟩ := (h.only k1 hF).four; exact he w1 h0 h1 h2 h3)
theorem build_slice_text (frm id : Int) (cn : Nat) (V : World) : (Instr.buildSlice 72 1 #[(0, .agg (newCells frm id cn).toArray)]).run Tryd.prog V = .ok (.slice (some ⟨V.heap.size, 0, none⟩) 1 1) (V.alloc (.cells (newCells frm id cn).toArray 79)) := by
  obtain ⟨i0, hti, hz0, hz1, hz2⟩ := info_parts txinfo
  exact run_buildSlice V 72 79 1 _ _ i0 _ Tryd.underlying72 hti hz0 (by rw [hz1]; decide) (by rw [hz1]; decide) (by rw [hz1]; kernel_rfl)
theorem buildSlice_op {P : Program} {o : Oper} {a : Act} {t : TypeId} {x : Operand} {X v : Value} {w1 w2 : World} (ho : o.op = .buildSlice t 1 #[(0, x)]) (hx : a.eval x = X) (hr : (Instr.buildSlice t 1 #[(0, X)]).run P w1 = .ok v w2) : (execOp a.eval o).run P w1 = .ok (.value v) w2 := by
  subst hx
  unfold execOp
  have e : (#[(0, x)] : Array (Nat × Operand)).map (fun (i, x) => (i, a.eval x)) = #[(0, a.eval x)] := by simp
  simp only [ho, e, Sem.run_bind, hr, Result.andThen_ok, Sem.run_pure]
theorem flat_small {ls : List (List UInt8)} {n : Nat} (h : ∀ l ∈ ls, l.length ≤ n) : ls.flatten.length ≤ ls.length * n := by
  induction ls with
  | nil => simp
  | cons a t ih =>
    have h1 := h a (by simp)
    have h2 := ih (fun l hl => h l (by simp [hl]))
    rw [List.flatten_cons, List.length_append, List.length_cons, Nat.add_mul]
    omega
section
variable {P : Program} {ops : Array Oper} {Q : Exit → Act → World → Prop} {md : Region.Mode} {F : Nat → Prop} {w0 : World}
/-- Two operations that may come up in either order; what they yield is new. -/
theorem wpN_run2 {i j : Nat} {o o' : Oper} {d d' : Option Tmp} {n : Nat} {listed : Array Bool} {a : Act} {w : World} (T U : Value → World → Prop)
    (hT : ∀ v w1 w2, T v w1 → Only Noth w1 w2 → T v w2) (hU : ∀ v w1 w2, U v w1 → Only Noth w1 w2 → U v w2)
    (hr : Region.ready md ops listed = [i, j]) (hri : Region.ready md ops (listed.setIfInBounds i true) = [j]) (hrj : Region.ready md ops (listed.setIfInBounds j true) = [i]) (hij : i ≠ j)
    (hi : ops[i]? = some o) (hj : ops[j]? = some o') (hdd : o.dst = d) (hdd' : o'.dst = d') (hg : o.guard = none) (hg' : o'.guard = none) (hd : ∀ e, d = some e → d' ≠ some e)
    (hS : Only F w0 w)
    (he : ∀ u w1, Only Noth w w1 → ∃ v w2, (execOp a.eval o).run P w1 = .ok (.value v) w2 ∧ (execOp (a.put d' u).eval o).run P w1 = .ok (.value v) w2 ∧ T v w2 ∧ Only Noth w1 w2)
    (he' : ∀ u w1, Only Noth w w1 → ∃ v w2, (execOp a.eval o').run P w1 = .ok (.value v) w2 ∧ (execOp (a.put d u).eval o').run P w1 = .ok (.value v) w2 ∧ U v w2 ∧ Only Noth w1 w2)
    (h : ∀ v u w2, T v w2 → U u w2 → Only Noth w w2 → wpN P md ops Q F w0 n ((listed.setIfInBounds i true).setIfInBounds j true) ((a.put d v).put d' u) w2) : wpN P md ops Q F w0 (n + 2) listed a w := by
  subst hdd hdd'
  have hw : ∀ b : Act, Region.wanted o (yielded ops b.tmps) = true := fun b => by simp [Region.wanted, hg]
  have hw' : ∀ b : Act, Region.wanted o' (yielded ops b.tmps) = true := fun b => by simp [Region.wanted, hg']
  refine wpN_two hr hi (hw a) hj (hw' a) (fun w1 h1 => ?_) (fun w1 h1 => ?_)
  · obtain ⟨v, w2, hrun, _, ht, ho⟩ := he .nilFunc w1 h1
    have k2 := h1.tr ho
    unfold Oper.wp
    rw [hrun]
    refine ⟨only_up w0 _ _ hS k2, wpN_one hri hj (hw' _) (fun w3 h3 => ?_)⟩
    obtain ⟨u, w4, _, hrun4, hu, ho4⟩ := he' v w3 (k2.tr h3)
    have k4 := (k2.tr h3).tr ho4
    unfold Oper.wp
    rw [hrun4]
    exact ⟨only_up w0 _ _ hS k4, h v u w4 (hT _ _ _ (hT _ _ _ ht h3) ho4) hu k4⟩
  · obtain ⟨u, w2, hrun, _, hu, ho⟩ := he' .nilFunc w1 h1
    have k2 := h1.tr ho
    unfold Oper.wp
    rw [hrun]
    refine ⟨only_up w0 _ _ hS k2, wpN_one hrj hi (hw _) (fun w3 h3 => ?_)⟩
    obtain ⟨v, w4, _, hrun4, ht, ho4⟩ := he u w3 (k2.tr h3)
    have k4 := (k2.tr h3).tr ho4
    unfold Oper.wp
    rw [hrun4]
    refine ⟨only_up w0 _ _ hS k4, ?_⟩
    have := h v u w4 ht (hU _ _ _ (hU _ _ _ hu h3) ho4) k4
    rw [Array.setIfInBounds_comm _ _ hij, Act.put_comm _ _ _ hd] at this
    exact this
end
/-- What Add hands back. -/
def AddAns (r : Jn × Option (List UInt8) × Int) (w : World) (e : Ending) (w' : World) : Prop := ∃ u, e = .returned (.tuple #[u, .bool r.2.1.isSome, .int .i64 r.2.2]) ∧ BsAt w' (New w) u (r.2.1.getD [])
set_option maxHeartbeats 32000000 in
theorem add_run (R S Sv : Nat → Prop) (g : Nat) (J : Jn) (frm id idx cnt : Int) (bs : List UInt8) (v : Value) (w : World) (h : JoinAt R S w g J) (hf0 : 0 ≤ frm) (hlost : J.lost ≤ 1000000) (hv : BsAt w Sv v bs) (hSv : ∀ b, Sv b → b ≠ g ∧ ¬ R b) :
    Calls Tryd.prog 13 #[.pointer (some ⟨g, 0, none⟩), .int .u16 frm, .agg #[.int .i64 id, .int .i64 idx, .int .i64 cnt, v]] w fun e w' => AddAns (jadd J frm ⟨id, idx, cnt, bs⟩) w e w' ∧ JoinAt (fun b => R b ∨ New w b) (fun b => S b ∨ New w b) w' g (jadd J frm ⟨id, idx, cnt, bs⟩).1 ∧ Only (fun b => b = g ∨ R b) w w' := by
  obtain ⟨hok, A, c, css, hst⟩ := h.st
  obtain ⟨A0, c0, rfl, hsrc, hlc, hcm⟩ := hv
  have a1 := (Only.refl Noth w).alloc (.cells #[.int .i64 id, .int .i64 idx, .int .i64 cnt, .slice A0 bs.length c0] 29)
  have PB := Lib.hid (Hld.new w 29 #[.int .i64 id, .int .i64 idx, .int .i64 cnt, .slice A0 bs.length c0])
  have ST := Lib.hid (hst.noth a1)
  have HV := Lib.hid (show BsAt (w.alloc (.cells #[.int .i64 id, .int .i64 idx, .int .i64 cnt, .slice A0 bs.length c0] 29)) (fun b => Sv b ∧ b < w.heap.size) (.slice A0 bs.length c0) bs from (show BsAt w (fun b => Sv b ∧ b < w.heap.size) (.slice A0 bs.length c0) bs from ⟨A0, c0, rfl, hsrc.mono (fun k hk hl => ⟨hk, hl⟩), hlc, hcm⟩).noth a1)
  have HSV := Lib.hid (show ∀ b, (Sv b ∧ b < w.heap.size) → b ≠ g ∧ ¬ (R b ∨ New w b) from fun b hb => ⟨(hSv b hb.1).1, fun hr => by
    rcases hr with hr | hr
    · exact (hSv b hb.1).2 hr
    · have hr : w.heap.size ≤ b := hr
      have := hb.2
      omega⟩)
  have HOK := Lib.hid hok
  have hgw := hst.ng.2.2
  clear h hsrc hst a1 hSv hok
  go_enter Tryd.func13, Tryd.ntmps13
  go_wp2_with fail
  refine (may_run ⟨id, idx, cnt, bs⟩ A0 c0 (Nat.le_trans hlc hcm) _).mono ?_
  rintro e w1 ⟨rfl, ho⟩
  replace PB := Lib.hid (PB.out.only ho (fun h => h))
  replace ST := Lib.hid (ST.out.noth ho)
  replace HV := Lib.hid (HV.out.noth ho)
  clear ho hlc hcm
  by_cases hbad : ((⟨id, idx, cnt, bs⟩ : Pt).may && decide (frm < 64)) = false
  · have HJ := Lib.hid (show jadd J frm ⟨id, idx, cnt, bs⟩ = (J, none, 2) by unfold jadd; rw [hbad]; rfl)
    obtain ⟨mb, hmb⟩ : ∃ mb, (⟨id, idx, cnt, bs⟩ : Pt).may = mb := ⟨_, rfl⟩
    rw [hmb] at hbad ⊢
    clear hmb
    have hret : ∀ (e : Ending) (W : World), e = .returned (.tuple #[.slice none 0 0, .bool false, .int .i64 2]) → W = w1 → AddAns (jadd J frm ⟨id, idx, cnt, bs⟩) w e W ∧ JoinAt (fun b => R b ∨ New w b) (fun b => S b ∨ New w b) W g (jadd J frm ⟨id, idx, cnt, bs⟩).1 ∧ Only (fun b => b = g ∨ R b) w W := by
      rintro e W rfl rfl
      rw [HJ.out]
      exact ⟨⟨_, rfl, BsAt.nil _ _⟩, ST.out.join HOK.out, ST.out.only⟩
    have HRET := Lib.hid hret
    clear hret
    cases mb
    · go_wp2
      refine bodyPost_ret (v := .tuple #[.slice none 0 0, .bool false, .int .i64 2]) (by simp [results, Tryd.results13, go_sem]) rfl ?_
      exact HRET.out _ _ rfl rfl
    · have hbig : (64 : Int) ≤ frm := by simpa using hbad
      go_wp2
      refine bodyPost_ret (v := .tuple #[.slice none 0 0, .bool false, .int .i64 2]) (by simp [results, Tryd.results13, go_sem]) rfl ?_
      exact HRET.out _ _ rfl rfl
  have hgood : ((⟨id, idx, cnt, bs⟩ : Pt).may && decide (frm < 64)) = true := by simpa using hbad
  have HJ := Lib.hid (show jadd J frm ⟨id, idx, cnt, bs⟩ = ((((J.open_ frm id cnt.toNat).1).at_ (J.open_ frm id cnt.toNat).2 idx.toNat bs).1, (((J.open_ frm id cnt.toNat).1).at_ (J.open_ frm id cnt.toNat).2 idx.toNat bs).2, 0) by unfold jadd; rw [hgood]; rfl)
  rw [Bool.and_eq_true, decide_eq_true_eq] at hgood
  obtain ⟨hmay, hfr⟩ := hgood
  rw [hmay]
  have hm := Pt.may_iff.1 hmay
  simp only at hm
  obtain ⟨hm1, hm2, hm3, hm4, hm5, hm6, hm7⟩ := hm
  obtain ⟨cn, rfl⟩ : ∃ n : Nat, cnt = (n : Int) := ⟨cnt.toNat, by omega⟩
  obtain ⟨k, rfl⟩ : ∃ n : Nat, idx = (n : Int) := ⟨idx.toNat, by omega⟩
  simp only [Int.toNat_natCast] at HJ
  have p0 : _ = some (Value.int .i64 id) := PB.out.cell 0
  clear hbad hmay
  go_wp2_with fail
  refine (find_run _ _ g J frm id _ (ST.out.join HOK.out)).mono ?_
  rintro e w2 ⟨rfl, ho⟩
  replace PB := Lib.hid (PB.out.only ho (fun h => h))
  replace ST := Lib.hid (ST.out.noth ho)
  replace HV := Lib.hid (HV.out.noth ho)
  clear ho p0
  have hok2 := Jn.open_ok HOK.out frm id (cnt := cn) (by omega) (by omega)
  have OPOK := Lib.hid hok2
  clear hok2
  by_cases hf : J.find frm id < J.T.length
  · obtain ⟨f, hfe⟩ : ∃ f, J.find frm id = f := ⟨_, rfl⟩
    have hpl : placeOf (J.find frm id) J.T.length = (f : Int) := by unfold placeOf; rw [if_pos hf, hfe]
    rw [hpl]
    rw [hfe] at hf
    obtain ⟨t, ht⟩ : ∃ t, J.T[f]? = some t := ⟨_, List.getElem?_eq_getElem hf⟩
    have HFE := Lib.hid hfe
    clear hpl hfe
    by_cases heq : t.pcs.length = cn
    · have HO := Lib.hid (show J.open_ frm id cn = (J, f) by
        unfold Jn.open_
        rw [if_pos (Jn.fits_iff.2 ⟨t, by rw [HFE.out]; exact ht, heq⟩), HFE.out])
      have hce : ((t.pcs.length : Int) != (cn : Int)) = false := by simp [heq]
      obtain ⟨rb, cu, cz, hA, hcz, hcu, htz, hinz⟩ := ST.out.blk ht
      subst hA
      have BX := Lib.hid ST.out.box
      have CU := Lib.hid hcu
      have C2 := Lib.hid (hinz 2 _ htz.c2)
      have hfi : f ≤ 100 := by have := HOK.out.len; omega
      clear hcu htz hinz
      go_wp2_with fail
      refine wp_region_N Noth (by kernel_rfl) ?_
      refine wpN_take (i := 0) (d := some 27) rfl rfl (by kernel_rfl) (by kernel_rfl) (by kernel_rfl) (fun _ _ _ h => h) (sure_value (v := .int .i64 (f : Int)) (by rfl) (fun v1 h1 => by first | rfl | (go_simp; done) | (go_simp; intro h9; exact absurd h9 (by omega)) | (go_simp; assumption))) (Only.refl _ _) ?_
      simp only [Act.put, List.setIfInBounds_toArray, List.set_cons_zero, List.set_cons_succ]
      refine wpN_take (i := 1) (d := some 28) rfl rfl (by kernel_rfl) (by kernel_rfl) (by kernel_rfl) (fun _ _ _ h => h) (sure_value (v := .bool true) (by rfl) (fun v1 h1 => by first | rfl | (go_simp; done) | (go_simp; intro h9; exact absurd h9 (by omega)) | (go_simp; assumption))) (Only.refl _ _) ?_
      simp only [Act.put, List.setIfInBounds_toArray, List.set_cons_zero, List.set_cons_succ]
      refine wpN_take (i := 2) (d := some 29) rfl rfl (by kernel_rfl) (by kernel_rfl) (by kernel_rfl) (fun _ _ _ h => h) (sure_value (v := .bool true) (by rfl) (fun v1 h1 => by first | rfl | (go_simp; done) | (go_simp; intro h9; exact absurd h9 (by omega)) | (go_simp; assumption))) (Only.refl _ _) ?_
      simp only [Act.put, List.setIfInBounds_toArray, List.set_cons_zero, List.set_cons_succ]
      refine wpN_take (i := 3) (d := some 30) rfl rfl (by kernel_rfl) (by kernel_rfl) (by kernel_rfl) (fun _ _ _ h => h) (sure_value (v := .pointer (some ⟨g, 0, none⟩)) (by rfl) (fun v1 h1 => by first | rfl | (go_simp; done) | (go_simp; intro h9; exact absurd h9 (by omega)) | (go_simp; assumption))) (Only.refl _ _) ?_
      simp only [Act.put, List.setIfInBounds_toArray, List.set_cons_zero, List.set_cons_succ]
      refine wpN_take (i := 4) (d := some 31) rfl rfl (by kernel_rfl) (by kernel_rfl) (by kernel_rfl) (fun _ _ _ h => h) (sure_value (v := .pointer (some ⟨g, 0, none⟩)) (by rfl) (fun v1 h1 => by first | rfl | (go_simp; done) | (go_simp; intro h9; exact absurd h9 (by omega)) | (go_simp; assumption))) (Only.refl _ _) ?_
      simp only [Act.put, List.setIfInBounds_toArray, List.set_cons_zero, List.set_cons_succ]
      refine wpN_take (i := 5) (d := some 32) rfl rfl (by kernel_rfl) (by kernel_rfl) (by kernel_rfl) (fun _ _ _ h => h) (sure_value (v := .pointer (some ⟨g, 0, none⟩)) (by rfl) (fun v1 h1 => by first | rfl | (go_simp; done) | (go_simp; intro h9; exact absurd h9 (by omega)) | (go_simp; assumption))) (Only.refl _ _) ?_
      simp only [Act.put, List.setIfInBounds_toArray, List.set_cons_zero, List.set_cons_succ]
      refine wpN_take (i := 6) (d := some 33) rfl rfl (by kernel_rfl) (by kernel_rfl) (by kernel_rfl) (fun _ _ _ h => h) (sure_lit (v := .slice (some ⟨rb, 0, none⟩) J.T.length c) (i := 0) BX.out.drew rfl (fun h => h) (by rfl) (fun _ h => by go_simp)) (Only.refl _ _) ?_
      simp only [Act.put, List.setIfInBounds_toArray, List.set_cons_zero, List.set_cons_succ]
      refine wpN_take (i := 7) (d := some 34) rfl rfl (by kernel_rfl) (by kernel_rfl) (by kernel_rfl) (fun _ _ _ h => h) (sure_value (v := .int .i64 (f : Int)) (by rfl) (fun v1 h1 => by first | rfl | (go_simp; done) | (go_simp; intro h9; exact absurd h9 (by omega)) | (go_simp; assumption))) (Only.refl _ _) ?_
      simp only [Act.put, List.setIfInBounds_toArray, List.set_cons_zero, List.set_cons_succ]
      refine wpN_take (i := 8) (d := some 35) rfl rfl (by kernel_rfl) (by kernel_rfl) (by kernel_rfl) (fun _ _ _ h => h) (sure_value (v := .pointer (some ⟨rb, f * 132, none⟩)) (by rfl) (fun v1 h1 => by first | rfl | (go_simp; done) | (go_simp; intro h9; exact absurd h9 (by omega)) | (go_simp; assumption))) (Only.refl _ _) ?_
      simp only [Act.put, List.setIfInBounds_toArray, List.set_cons_zero, List.set_cons_succ]
      refine wpN_take (i := 9) (d := some 36) rfl rfl (by kernel_rfl) (by kernel_rfl) (by kernel_rfl) (fun _ _ _ h => h) (sure_value (v := .pointer (some ⟨rb, f * 132 + 2, none⟩)) (by rfl) (fun v1 h1 => by first | rfl | (go_simp; done) | (go_simp; intro h9; exact absurd h9 (by omega)) | (go_simp; assumption))) (Only.refl _ _) ?_
      simp only [Act.put, List.setIfInBounds_toArray, List.set_cons_zero, List.set_cons_succ]
      refine wpN_take (i := 10) (d := some 37) rfl rfl (by kernel_rfl) (by kernel_rfl) (by kernel_rfl) (fun _ _ _ h => h) (sure_lit (v := .int .i64 t.pcs.length) (i := f * 132 + 2) CU.out.drew C2.out (fun h => h) (by rfl) (fun _ h => by go_simp)) (Only.refl _ _) ?_
      simp only [Act.put, List.setIfInBounds_toArray, List.set_cons_zero, List.set_cons_succ]
      refine wpN_take (i := 11) (d := some 38) rfl rfl (by kernel_rfl) (by kernel_rfl) (by kernel_rfl) (fun _ _ _ h => h) (sure_value (v := .pointer (some ⟨w.heap.size, 2, none⟩)) (by rfl) (fun v1 h1 => by first | rfl | (go_simp; done) | (go_simp; intro h9; exact absurd h9 (by omega)) | (go_simp; assumption))) (Only.refl _ _) ?_
      simp only [Act.put, List.setIfInBounds_toArray, List.set_cons_zero, List.set_cons_succ]
      refine wpN_take (i := 12) (d := some 39) rfl rfl (by kernel_rfl) (by kernel_rfl) (by kernel_rfl) (fun _ _ _ h => h) (sure_lit (v := .int .i64 (cn : Int)) (i := 2) PB.out.drew rfl (fun h => h) (by rfl) (fun _ h => by go_simp)) (Only.refl _ _) ?_
      simp only [Act.put, List.setIfInBounds_toArray, List.set_cons_zero, List.set_cons_succ]
      refine wpN_take (i := 13) (d := some 40) rfl rfl (by kernel_rfl) (by kernel_rfl) (by kernel_rfl) (fun _ _ _ h => h) (sure_value (v := .bool false) (by rfl) (fun v1 h1 => by first | rfl | (go_simp; done) | (go_simp; intro h9; exact absurd h9 (by omega)) | (go_simp; assumption))) (Only.refl _ _) ?_
      simp only [Act.put, List.setIfInBounds_toArray, List.set_cons_zero, List.set_cons_succ]
      refine wpN_take (i := 14) (d := some 41) rfl rfl (by kernel_rfl) (by kernel_rfl) (by kernel_rfl) (fun _ _ _ h => h) (sure_value (v := .bool false) (by rfl) (fun v1 h1 => by first | rfl | (go_simp; done) | (go_simp; intro h9; exact absurd h9 (by omega)) | (go_simp; assumption))) (Only.refl _ _) ?_
      simp only [Act.put, List.setIfInBounds_toArray, List.set_cons_zero, List.set_cons_succ]
      refine wpN_done (by kernel_rfl) (fun w3 ho => ?_) _
      replace ho := Only.undrew ho
      replace PB := Lib.hid (PB.out.only ho (fun h => h))
      replace ST := Lib.hid (ST.out.noth ho)
      replace HV := Lib.hid (HV.out.noth ho)
      clear ho BX CU C2
      obtain ⟨hJok, t, ht, htl, htf, hti⟩ := OPOK.out
      rw [HO.out] at hJok ht
      have JOK := Lib.hid hJok
      have HT := Lib.hid ht
      have hil := (List.getElem?_eq_some_iff.1 ht).1
      have hi16 := hJok.len
      simp only at hil hi16
      have hi17 : (J).T.length ≤ 17 := Nat.le_trans hi16 (by omega)
      obtain ⟨rb2, cur, cs, hA, hcz, hcur, htx, hin⟩ := ST.out.blk ht
      injection hA with hA
      injection hA with hA
      subst hA
      have htok := hJok.all t (List.mem_of_getElem? ht)
      have TOK := Lib.hid htok
      have CUR := Lib.hid hcur
      have TXI := Lib.hid htx
      have HIN := Lib.hid hin
      have hn64 : t.pcs.length ≤ 64 := htok.n2
      have NRB := Lib.hid (show rb ≠ g ∧ (R rb ∨ New w rb) from ⟨(ST.out.row_ne ⟨hcz, rfl⟩).1, (ST.out.row_ne ⟨hcz, rfl⟩).2.1⟩)
      have NPB := Lib.hid (show w.heap.size ≠ rb from PB.out.ne_ hcur (by decide))
      have STB := Lib.hid ST.out.box
      have m0 : _ = some (Value.slice (some ⟨rb, 0, none⟩) (J).T.length c) := STB.out.cell 0
      have HPUT := Lib.hid (show jadd J frm ⟨id, (k : Int), (cn : Int), bs⟩ = if (t.put k bs).left = 0 then (⟨(J).T.eraseIdx (f), (J).lost⟩, some (t.put k bs).whole, 0) else (⟨(J).T.set (f) (t.put k bs), (J).lost⟩, none, 0) by
        rw [HJ.out, HO.out]
        unfold Jn.at_
        simp only
        rw [ht]
        simp only [Option.getD_some]
        split <;> rfl)
      have hib : (f) ≤ 100 := by omega
      clear hJok ht hcur htx hin htok
      go_wp2_with fail
      refine wp_region_N (fun b => b = rb) (by kernel_rfl) ?_
      refine wpN_take (i := 0) (d := some 106) rfl rfl (by kernel_rfl) (by kernel_rfl) (by kernel_rfl) (fun _ _ _ h => h) (sure_value (v := .pointer (some ⟨g, 0, none⟩)) (by rfl) (fun v1 h1 => by first | rfl | (go_simp; done) | (go_simp; intro h9; exact absurd h9 (by omega)) | (go_simp; assumption))) (Only.refl _ _) ?_
      simp only [Act.put, List.setIfInBounds_toArray, List.set_cons_zero, List.set_cons_succ]
      refine wpN_take (i := 1) (d := some 107) rfl rfl (by kernel_rfl) (by kernel_rfl) (by kernel_rfl) (fun _ _ _ h => h) (sure_value (v := .pointer (some ⟨g, 0, none⟩)) (by rfl) (fun v1 h1 => by first | rfl | (go_simp; done) | (go_simp; intro h9; exact absurd h9 (by omega)) | (go_simp; assumption))) (Only.refl _ _) ?_
      simp only [Act.put, List.setIfInBounds_toArray, List.set_cons_zero, List.set_cons_succ]
      refine wpN_take (i := 2) (d := some 108) rfl rfl (by kernel_rfl) (by kernel_rfl) (by kernel_rfl) (fun _ _ _ h => h) (sure_value (v := .pointer (some ⟨g, 0, none⟩)) (by rfl) (fun v1 h1 => by first | rfl | (go_simp; done) | (go_simp; intro h9; exact absurd h9 (by omega)) | (go_simp; assumption))) (Only.refl _ _) ?_
      simp only [Act.put, List.setIfInBounds_toArray, List.set_cons_zero, List.set_cons_succ]
      refine wpN_take (i := 3) (d := some 109) rfl rfl (by kernel_rfl) (by kernel_rfl) (by kernel_rfl) (fun _ _ _ h => h) (sure_lit (v := .slice (some ⟨rb, 0, none⟩) (J).T.length c) (i := 0) STB.out.drew rfl (fun hh => NRB.out.1 hh.symm) (by rfl) (fun _ h => by go_simp)) (Only.refl _ _) ?_
      simp only [Act.put, List.setIfInBounds_toArray, List.set_cons_zero, List.set_cons_succ]
      refine wpN_take (i := 4) (d := some 110) rfl rfl (by kernel_rfl) (by kernel_rfl) (by kernel_rfl) (fun _ _ _ h => h) (sure_value (v := .int .i64 ((f : Int))) (by rfl) (fun v1 h1 => by first | rfl | (go_simp; done) | (go_simp; intro h9; exact absurd h9 (by omega)) | (go_simp; assumption))) (Only.refl _ _) ?_
      simp only [Act.put, List.setIfInBounds_toArray, List.set_cons_zero, List.set_cons_succ]
      refine wpN_take (i := 5) (d := some 111) rfl rfl (by kernel_rfl) (by kernel_rfl) (by kernel_rfl) (fun _ _ _ h => h) (sure_value (v := .pointer (some ⟨rb, (f) * 132, none⟩)) (by rfl) (fun v1 h1 => by first | rfl | (go_simp; done) | (go_simp; intro h9; exact absurd h9 (by omega)) | (go_simp; assumption))) (Only.refl _ _) ?_
      simp only [Act.put, List.setIfInBounds_toArray, List.set_cons_zero, List.set_cons_succ]
      refine wpN_take (i := 6) (d := some 112) rfl rfl (by kernel_rfl) (by kernel_rfl) (by kernel_rfl) (fun _ _ _ h => h) (sure_four PB.out.drew (fun hh => NPB.out hh) (by rfl) (fun _ h0 h1 h2 h3 => by go_simp)) (Only.refl _ _) ?_
      simp only [Act.put, List.setIfInBounds_toArray, List.set_cons_zero, List.set_cons_succ]
      refine wpN_call (i := 7) (d := some 113) (T := fun u w1 w' => u = .bool (decide (((t.put k bs).left : Int) = 0)) ∧ AddLeft w3 (fun b => (S b ∨ New w b) ∧ ¬ RowB (some ⟨rb, 0, none⟩) c b) rb (f) cur (t.put k bs) w' ∧ Only (fun b => b = rb) w3 w') (fun w1 h1 => (text_add rb (f) k id cn bs (.slice A0 bs.length c0) cur cs t _ _ w1 (CUR.out.only (Only.undrew h1) (fun h => h)) HIN.out (TXI.out.only (Only.undrew h1) (fun _ _ h => h)) (fun b hb e => hb.2 ⟨hcz, by rw [e]⟩) (by omega) hn64 TOK.out.left (HV.out.noth (Only.undrew h1)) (fun b hb e => (HSV.out b hb).2 (e ▸ NRB.out.2)) hm7).mono (fun r w' h => by obtain ⟨e1, e2, e3⟩ := h; exact ⟨_, e1, ⟨rfl, e2.up (Only.undrew h1).size, ((Only.undrew h1).mono (G := fun b => b = rb) (fun j hj _ => hj.elim)).trans e3 (fun j hj _ => hj)⟩, (h1.mono (G := fun b => b = rb) (fun j hj _ => hj.elim)).trans e3 (fun j hj _ => hj)⟩)) (by kernel_rfl) rfl rfl (by rfl) (fun _ => by go_simp) ?_
      rintro u w5 w6 h5 ⟨rfl, hleft, honly⟩ h6
      simp only [Act.put, List.setIfInBounds_toArray, List.set_cons_zero, List.set_cons_succ]
      refine wpN_take (i := 8) (d := some 114) rfl rfl (by kernel_rfl) (by kernel_rfl) (by kernel_rfl) (fun _ _ _ h => h) (sure_value (v := .bool (!decide (((t.put k bs).left : Int) = 0))) (by rfl) (fun v1 h1 => by first | rfl | (go_simp; done) | (go_simp; intro h9; exact absurd h9 (by omega)) | (go_simp; assumption))) h6 ?_
      simp only [Act.put, List.setIfInBounds_toArray, List.set_cons_zero, List.set_cons_succ]
      refine wpN_done (by kernel_rfl) (fun w7 ho => ?_) _
      obtain ⟨css4, hst4⟩ := (ST.out).put hil rfl hcz CUR.out hleft honly
      obtain ⟨T4, hT4⟩ : ∃ T4, (J).T.set (f) (t.put k bs) = T4 := ⟨_, rfl⟩
      simp only [hT4] at hst4
      have hp4 := HPUT.out
      simp only [hT4] at hp4
      replace HPUT := Lib.hid hp4
      have hil4 : (f) < T4.length := by rw [← hT4, List.length_set]; exact hil
      have hle4 : T4.length ≤ 17 := by rw [← hT4, List.length_set]; exact hi17
      have HER := Lib.hid (show T4.eraseIdx (f) = (J).T.eraseIdx (f) by rw [← hT4, List.eraseIdx_set_eq])
      have HAT := Lib.hid (show T4[f]? = some (t.put k bs) by rw [← hT4]; exact List.getElem?_set_self hil)
      clear hT4 hp4
      replace ST := Lib.hid (hst4.noth ho)
      replace PB := Lib.hid ((PB.out.only honly NPB.out).only ho (fun h => h))
      clear h5 hleft honly h6 ho hst4 m0 STB CUR TXI HIN
      by_cases hdone : (t.put k bs).left = 0
      · have hd : decide (((t.put k bs).left : Int) = 0) = true := by simpa using hdone
        rw [hd]
        have HR := Lib.hid (HPUT.out.trans (if_pos hdone))
        obtain ⟨rb3, cur3, cs3, hA3, hcz3, hcur3, htx3, hin3⟩ := ST.out.blk HAT.out
        injection hA3 with hA3
        injection hA3 with hA3
        subst hA3
        have hlsn : ((t.put k bs).pcs.map (·.getD [])).length = cn := by rw [List.length_map, Tx.put_len, htl]
        have hsm := Tx.put_small (k := k) TOK.out.small hm7
        have hsz : ((t.put k bs).pcs.map (·.getD [])).flatten.length ≤ 1000000 := by
          have h1 := flat_small (ls := (t.put k bs).pcs.map (·.getD [])) (n := 8192) (fun l hl => by
            obtain ⟨x, hx, rfl⟩ := List.mem_map.1 hl
            cases x with
            | none => simp
            | some y => simpa using hsm y hx)
          rw [hlsn] at h1
          have : cn * 8192 ≤ 64 * 8192 := Nat.mul_le_mul_right _ (by omega)
          omega
        have PS := Lib.hid (show PsAt w7 (fun b => (S b ∨ New w b) ∧ ¬ RowB (some ⟨rb, 0, none⟩) c b) rb ((f) * 132 + 68) ((t.put k bs).pcs.map (·.getD [])) from ⟨hcur3.lt, fun j l hj => by
          have hjl : j < cn := by have := (List.getElem?_eq_some_iff.1 hj).1; rw [hlsn] at this; exact this
          obtain ⟨u, hu, hbu⟩ := htx3.part j (by omega)
          have hc := (hcur3.cell _).trans (hin3 _ _ hu)
          rw [← Nat.add_assoc] at hc
          have hl : l = (t.put k bs).piece j := by
            unfold Tx.piece
            rw [List.getElem?_map] at hj
            cases hx : (t.put k bs).pcs[j]? with
            | none => rw [hx] at hj; cases hj
            | some x =>
              rw [hx] at hj
              injection hj with hj
              rw [← hj]
              cases x <;> rfl
          rw [hl]
          exact ⟨u, hc, hbu⟩⟩)
        have CONC := Lib.hid (fun W => concat_run rb ((f) * 132 + 68) 64 (fun b => (S b ∨ New w b) ∧ ¬ RowB (some ⟨rb, 0, none⟩) c b) ((t.put k bs).pcs.map (·.getD [])) (by omega) hsz W)
        have HLS := Lib.hid hlsn
        have HWH := Lib.hid (show ((t.put k bs).pcs.map (·.getD [])).flatten = (t.put k bs).whole from rfl)
        have STB := Lib.hid ST.out.box
        have m0 : _ = some (Value.slice (some ⟨rb, 0, none⟩) T4.length c) := STB.out.cell 0
        clear hcur3 htx3 hin3 hsz hsm hlsn
        go_wp2_with fail
        refine wp_region_N Noth (by kernel_rfl) ?_
        refine wpN_take (i := 0) (d := some 115) rfl rfl (by kernel_rfl) (by kernel_rfl) (by kernel_rfl) (fun _ _ _ h => h) (sure_value (v := .pointer (some ⟨g, 0, none⟩)) (by rfl) (fun v1 h1 => by first | rfl | (go_simp; done) | (go_simp; intro h9; exact absurd h9 (by omega)) | (go_simp; assumption))) (Only.refl _ _) ?_
        simp only [Act.put, List.setIfInBounds_toArray, List.set_cons_zero, List.set_cons_succ]
        refine wpN_take (i := 1) (d := some 116) rfl rfl (by kernel_rfl) (by kernel_rfl) (by kernel_rfl) (fun _ _ _ h => h) (sure_value (v := .pointer (some ⟨g, 0, none⟩)) (by rfl) (fun v1 h1 => by first | rfl | (go_simp; done) | (go_simp; intro h9; exact absurd h9 (by omega)) | (go_simp; assumption))) (Only.refl _ _) ?_
        simp only [Act.put, List.setIfInBounds_toArray, List.set_cons_zero, List.set_cons_succ]
        refine wpN_take (i := 2) (d := some 117) rfl rfl (by kernel_rfl) (by kernel_rfl) (by kernel_rfl) (fun _ _ _ h => h) (sure_value (v := .pointer (some ⟨g, 0, none⟩)) (by rfl) (fun v1 h1 => by first | rfl | (go_simp; done) | (go_simp; intro h9; exact absurd h9 (by omega)) | (go_simp; assumption))) (Only.refl _ _) ?_
        simp only [Act.put, List.setIfInBounds_toArray, List.set_cons_zero, List.set_cons_succ]
        refine wpN_take (i := 3) (d := some 118) rfl rfl (by kernel_rfl) (by kernel_rfl) (by kernel_rfl) (fun _ _ _ h => h) (sure_lit (v := .slice (some ⟨rb, 0, none⟩) T4.length c) (i := 0) STB.out.drew rfl (fun h => h) (by rfl) (fun _ h => by go_simp)) (Only.refl _ _) ?_
        simp only [Act.put, List.setIfInBounds_toArray, List.set_cons_zero, List.set_cons_succ]
        refine wpN_take (i := 4) (d := some 119) rfl rfl (by kernel_rfl) (by kernel_rfl) (by kernel_rfl) (fun _ _ _ h => h) (sure_value (v := .int .i64 ((f : Int))) (by rfl) (fun v1 h1 => by first | rfl | (go_simp; done) | (go_simp; intro h9; exact absurd h9 (by omega)) | (go_simp; assumption))) (Only.refl _ _) ?_
        simp only [Act.put, List.setIfInBounds_toArray, List.set_cons_zero, List.set_cons_succ]
        refine wpN_take (i := 5) (d := some 120) rfl rfl (by kernel_rfl) (by kernel_rfl) (by kernel_rfl) (fun _ _ _ h => h) (sure_value (v := .pointer (some ⟨rb, (f) * 132, none⟩)) (by rfl) (fun v1 h1 => by go_simp)) (Only.refl _ _) ?_
        simp only [Act.put, List.setIfInBounds_toArray, List.set_cons_zero, List.set_cons_succ]
        refine wpN_take (i := 6) (d := some 121) rfl rfl (by kernel_rfl) (by kernel_rfl) (by kernel_rfl) (fun _ _ _ h => h) (sure_value (v := .pointer (some ⟨rb, (f) * 132 + 68, none⟩)) (by rfl) (fun v1 h1 => by first | rfl | (go_simp; done) | (go_simp; intro h9; exact absurd h9 (by omega)) | (go_simp; assumption))) (Only.refl _ _) ?_
        simp only [Act.put, List.setIfInBounds_toArray, List.set_cons_zero, List.set_cons_succ]
        refine wpN_take (i := 7) (d := some 122) rfl rfl (by kernel_rfl) (by kernel_rfl) (by kernel_rfl) (fun _ _ _ h => h) (sure_value (v := .pointer (some ⟨w.heap.size, 2, none⟩)) (by rfl) (fun v1 h1 => by first | rfl | (go_simp; done) | (go_simp; intro h9; exact absurd h9 (by omega)) | (go_simp; assumption))) (Only.refl _ _) ?_
        simp only [Act.put, List.setIfInBounds_toArray, List.set_cons_zero, List.set_cons_succ]
        refine wpN_take (i := 8) (d := some 123) rfl rfl (by kernel_rfl) (by kernel_rfl) (by kernel_rfl) (fun _ _ _ h => h) (sure_lit (v := .int .i64 (cn : Int)) (i := 2) PB.out.drew rfl (fun h => h) (by rfl) (fun _ h => by go_simp)) (Only.refl _ _) ?_
        simp only [Act.put, List.setIfInBounds_toArray, List.set_cons_zero, List.set_cons_succ]
        refine wpN_take (i := 9) (d := some 124) rfl rfl (by kernel_rfl) (by kernel_rfl) (by kernel_rfl) (fun _ _ _ h => h) (sure_value (v := .slice (some ⟨rb, (f) * 132 + 68, none⟩) cn 64) (by rfl) (fun v1 h1 => by first | rfl | (go_simp; done) | (go_simp; intro h9; exact absurd h9 (by omega)) | (go_simp; assumption))) (Only.refl _ _) ?_
        simp only [Act.put, List.setIfInBounds_toArray, List.set_cons_zero, List.set_cons_succ]
        refine wpN_call (i := 10) (d := some 125) (T := fun u w1 w' => BsAt w' (New w7) u ((t.put k bs).pcs.map (·.getD [])).flatten ∧ Only Noth w7 w') (fun w1 h1 => by
          have hcc := CONC.out w1 (PS.out.noth (Only.undrew h1))
          rw [HLS.out] at hcc
          refine hcc.mono (fun r w' h => ?_)
          obtain ⟨⟨u, e1, e2⟩, e3⟩ := h
          exact ⟨u, e1, ⟨e2.mono (fun j hj _ => Nat.le_trans (Only.undrew h1).size hj), Only.undrew (h1.tr e3)⟩, h1.tr e3⟩) (by kernel_rfl) rfl rfl (by rfl) (fun _ => by go_simp) ?_
        rintro u8 w8 w9 h8 ⟨hub, h3⟩ h9
        simp only [Act.put, List.setIfInBounds_toArray, List.set_cons_zero, List.set_cons_succ]
        refine wpN_take (i := 11) (d := some 10) rfl rfl (by kernel_rfl) (by kernel_rfl) (by kernel_rfl) (fun _ _ _ h => h) (sure_value (v := u8) (by rfl) (fun v1 h1 => by first | rfl | (go_simp; done) | (go_simp; intro h9; exact absurd h9 (by omega)) | (go_simp; assumption))) h9 ?_
        simp only [Act.put, List.setIfInBounds_toArray, List.set_cons_zero, List.set_cons_succ]
        refine wpN_done (by kernel_rfl) (fun w10 ho => ?_) _
        have ST8 := Lib.hid (ST.out.noth (h3.tr ho))
        have UB := Lib.hid (hub.noth ho)
        have hz7 := (ST.out).only.size
        have hRW := Lib.hid (fun j (hj : RowB (some ⟨rb, 0, none⟩) c j) => show j < w7.heap.size from by obtain ⟨_, _, cu, hcu⟩ := ST.out.row_ne hj; exact hcu.lt)
        have hgW := Lib.hid (show g < w7.heap.size from STB.out.lt)
        have m0 : _ = some (Value.slice (some ⟨rb, 0, none⟩) T4.length c) := ST8.out.box.cell 0
        clear ho hub h3 STB PS CONC
        go_wp2_with fail
        refine ((ST8.out).del_call hil4).mono ?_
        rintro e w12 ⟨rfl, hbx, hro, hst⟩
        have d0 : _ = some _ := hbx.cell 0
        have d1 := hbx.free 0
        have STF := Lib.hid hst
        have UF := Lib.hid (((UB.out.only hro (fun b hb hr => by have hb : w7.heap.size ≤ b := hb; have := hRW.out b hr; omega)).only ((Only.refl (fun k => k = g) w12).setCell (p := ⟨g, 0, none⟩) (fun _ => rfl) (.slice (some ⟨rb, 0, none⟩) (T4.length - 1) c)) (fun b hb e => by have hb : w7.heap.size ≤ b := hb; have e : b = g := e; have := hgW.out; omega)).mono (fun b hb _ => show New w b from Nat.le_trans hz7 hb))
        have hjok := jadd_ok HOK.out frm ⟨id, (k : Int), (cn : Int), bs⟩
        rw [HR.out] at hjok
        have JK := Lib.hid hjok
        clear hbx hro hst hjok m0
        go_wp2
        refine bodyPost_ret (v := .tuple #[u8, .bool true, .int .i64 0]) (by simp [results, Tryd.results13, go_sem]) rfl ?_
        rw [HR.out]
        have STG := STF.out
        simp only [HER.out] at STG
        exact ⟨⟨_, rfl, by rw [← HWH.out]; exact UF.out⟩, STG.join JK.out, STG.only⟩
      · have hd : decide (((t.put k bs).left : Int) = 0) = false := by simpa using hdone
        rw [hd]
        have HR := Lib.hid (HPUT.out.trans (if_neg hdone))
        have hjok := jadd_ok HOK.out frm ⟨id, (k : Int), (cn : Int), bs⟩
        rw [HR.out] at hjok
        have JK := Lib.hid hjok
        clear hjok
        go_wp2_with fail
        refine bodyPost_ret (v := .tuple #[.slice none 0 0, .bool false, .int .i64 0]) (by simp [results, Tryd.results13, go_sem]) rfl ?_
        rw [HR.out]
        exact ⟨⟨_, rfl, BsAt.nil _ _⟩, ST.out.join JK.out, ST.out.only⟩
    · have hce : ((t.pcs.length : Int) != (cn : Int)) = true := by simpa using (show ¬ (t.pcs.length : Int) = (cn : Int) by omega)
      obtain ⟨rb, cu, cz, hA, hcz, hcu, htz, hinz⟩ := ST.out.blk ht
      subst hA
      have BX := Lib.hid ST.out.box
      have CU := Lib.hid hcu
      have C2 := Lib.hid (hinz 2 _ htz.c2)
      have hfi : f ≤ 100 := by have := HOK.out.len; omega
      clear hcu htz hinz
      go_wp2_with fail
      refine wp_region_N Noth (by kernel_rfl) ?_
      refine wpN_take (i := 0) (d := some 27) rfl rfl (by kernel_rfl) (by kernel_rfl) (by kernel_rfl) (fun _ _ _ h => h) (sure_value (v := .int .i64 (f : Int)) (by rfl) (fun v1 h1 => by first | rfl | (go_simp; done) | (go_simp; intro h9; exact absurd h9 (by omega)) | (go_simp; assumption))) (Only.refl _ _) ?_
      simp only [Act.put, List.setIfInBounds_toArray, List.set_cons_zero, List.set_cons_succ]
      refine wpN_take (i := 1) (d := some 28) rfl rfl (by kernel_rfl) (by kernel_rfl) (by kernel_rfl) (fun _ _ _ h => h) (sure_value (v := .bool true) (by rfl) (fun v1 h1 => by first | rfl | (go_simp; done) | (go_simp; intro h9; exact absurd h9 (by omega)) | (go_simp; assumption))) (Only.refl _ _) ?_
      simp only [Act.put, List.setIfInBounds_toArray, List.set_cons_zero, List.set_cons_succ]
      refine wpN_take (i := 2) (d := some 29) rfl rfl (by kernel_rfl) (by kernel_rfl) (by kernel_rfl) (fun _ _ _ h => h) (sure_value (v := .bool true) (by rfl) (fun v1 h1 => by first | rfl | (go_simp; done) | (go_simp; intro h9; exact absurd h9 (by omega)) | (go_simp; assumption))) (Only.refl _ _) ?_
      simp only [Act.put, List.setIfInBounds_toArray, List.set_cons_zero, List.set_cons_succ]
      refine wpN_take (i := 3) (d := some 30) rfl rfl (by kernel_rfl) (by kernel_rfl) (by kernel_rfl) (fun _ _ _ h => h) (sure_value (v := .pointer (some ⟨g, 0, none⟩)) (by rfl) (fun v1 h1 => by first | rfl | (go_simp; done) | (go_simp; intro h9; exact absurd h9 (by omega)) | (go_simp; assumption))) (Only.refl _ _) ?_
      simp only [Act.put, List.setIfInBounds_toArray, List.set_cons_zero, List.set_cons_succ]
      refine wpN_take (i := 4) (d := some 31) rfl rfl (by kernel_rfl) (by kernel_rfl) (by kernel_rfl) (fun _ _ _ h => h) (sure_value (v := .pointer (some ⟨g, 0, none⟩)) (by rfl) (fun v1 h1 => by first | rfl | (go_simp; done) | (go_simp; intro h9; exact absurd h9 (by omega)) | (go_simp; assumption))) (Only.refl _ _) ?_
      simp only [Act.put, List.setIfInBounds_toArray, List.set_cons_zero, List.set_cons_succ]
      refine wpN_take (i := 5) (d := some 32) rfl rfl (by kernel_rfl) (by kernel_rfl) (by kernel_rfl) (fun _ _ _ h => h) (sure_value (v := .pointer (some ⟨g, 0, none⟩)) (by rfl) (fun v1 h1 => by first | rfl | (go_simp; done) | (go_simp; intro h9; exact absurd h9 (by omega)) | (go_simp; assumption))) (Only.refl _ _) ?_
      simp only [Act.put, List.setIfInBounds_toArray, List.set_cons_zero, List.set_cons_succ]
      refine wpN_take (i := 6) (d := some 33) rfl rfl (by kernel_rfl) (by kernel_rfl) (by kernel_rfl) (fun _ _ _ h => h) (sure_lit (v := .slice (some ⟨rb, 0, none⟩) J.T.length c) (i := 0) BX.out.drew rfl (fun h => h) (by rfl) (fun _ h => by go_simp)) (Only.refl _ _) ?_
      simp only [Act.put, List.setIfInBounds_toArray, List.set_cons_zero, List.set_cons_succ]
      refine wpN_take (i := 7) (d := some 34) rfl rfl (by kernel_rfl) (by kernel_rfl) (by kernel_rfl) (fun _ _ _ h => h) (sure_value (v := .int .i64 (f : Int)) (by rfl) (fun v1 h1 => by first | rfl | (go_simp; done) | (go_simp; intro h9; exact absurd h9 (by omega)) | (go_simp; assumption))) (Only.refl _ _) ?_
      simp only [Act.put, List.setIfInBounds_toArray, List.set_cons_zero, List.set_cons_succ]
      refine wpN_take (i := 8) (d := some 35) rfl rfl (by kernel_rfl) (by kernel_rfl) (by kernel_rfl) (fun _ _ _ h => h) (sure_value (v := .pointer (some ⟨rb, f * 132, none⟩)) (by rfl) (fun v1 h1 => by first | rfl | (go_simp; done) | (go_simp; intro h9; exact absurd h9 (by omega)) | (go_simp; assumption))) (Only.refl _ _) ?_
      simp only [Act.put, List.setIfInBounds_toArray, List.set_cons_zero, List.set_cons_succ]
      refine wpN_take (i := 9) (d := some 36) rfl rfl (by kernel_rfl) (by kernel_rfl) (by kernel_rfl) (fun _ _ _ h => h) (sure_value (v := .pointer (some ⟨rb, f * 132 + 2, none⟩)) (by rfl) (fun v1 h1 => by first | rfl | (go_simp; done) | (go_simp; intro h9; exact absurd h9 (by omega)) | (go_simp; assumption))) (Only.refl _ _) ?_
      simp only [Act.put, List.setIfInBounds_toArray, List.set_cons_zero, List.set_cons_succ]
      refine wpN_take (i := 10) (d := some 37) rfl rfl (by kernel_rfl) (by kernel_rfl) (by kernel_rfl) (fun _ _ _ h => h) (sure_lit (v := .int .i64 t.pcs.length) (i := f * 132 + 2) CU.out.drew C2.out (fun h => h) (by rfl) (fun _ h => by go_simp)) (Only.refl _ _) ?_
      simp only [Act.put, List.setIfInBounds_toArray, List.set_cons_zero, List.set_cons_succ]
      refine wpN_take (i := 11) (d := some 38) rfl rfl (by kernel_rfl) (by kernel_rfl) (by kernel_rfl) (fun _ _ _ h => h) (sure_value (v := .pointer (some ⟨w.heap.size, 2, none⟩)) (by rfl) (fun v1 h1 => by first | rfl | (go_simp; done) | (go_simp; intro h9; exact absurd h9 (by omega)) | (go_simp; assumption))) (Only.refl _ _) ?_
      simp only [Act.put, List.setIfInBounds_toArray, List.set_cons_zero, List.set_cons_succ]
      refine wpN_take (i := 12) (d := some 39) rfl rfl (by kernel_rfl) (by kernel_rfl) (by kernel_rfl) (fun _ _ _ h => h) (sure_lit (v := .int .i64 (cn : Int)) (i := 2) PB.out.drew rfl (fun h => h) (by rfl) (fun _ h => by go_simp)) (Only.refl _ _) ?_
      simp only [Act.put, List.setIfInBounds_toArray, List.set_cons_zero, List.set_cons_succ]
      refine wpN_take (i := 13) (d := some 40) rfl rfl (by kernel_rfl) (by kernel_rfl) (by kernel_rfl) (fun _ _ _ h => h) (sure_value (v := .bool true) (by rfl) (fun v1 h1 => by first | rfl | (go_simp; done) | (go_simp; intro h9; exact absurd h9 (by omega)) | (go_simp; assumption))) (Only.refl _ _) ?_
      simp only [Act.put, List.setIfInBounds_toArray, List.set_cons_zero, List.set_cons_succ]
      refine wpN_take (i := 14) (d := some 41) rfl rfl (by kernel_rfl) (by kernel_rfl) (by kernel_rfl) (fun _ _ _ h => h) (sure_value (v := .bool true) (by rfl) (fun v1 h1 => by first | rfl | (go_simp; done) | (go_simp; intro h9; exact absurd h9 (by omega)) | (go_simp; assumption))) (Only.refl _ _) ?_
      simp only [Act.put, List.setIfInBounds_toArray, List.set_cons_zero, List.set_cons_succ]
      refine wpN_done (by kernel_rfl) (fun w3 ho => ?_) _
      replace ho := Only.undrew ho
      replace PB := Lib.hid (PB.out.only ho (fun h => h))
      replace ST := Lib.hid (ST.out.noth ho)
      replace HV := Lib.hid (HV.out.noth ho)
      clear ho BX CU C2
      have HFT := Lib.hid (show J.fits frm id cn = false from by
        cases hq : J.fits frm id cn with
        | false => rfl
        | true =>
          obtain ⟨t2, ht2, hl2⟩ := Jn.fits_iff.1 hq
          rw [HFE.out, ht] at ht2
          injection ht2 with ht2
          subst ht2
          exact absurd hl2 heq)
      have hdrop : J.drop frm id = ⟨J.T.eraseIdx f, J.lost + 1⟩ := by
        unfold Jn.drop
        rw [HFE.out, if_pos hf]
      have hj2 := Jn.drop_ok HOK.out frm id
      have hb0 := ST.out.box
      have m0 : _ = some (Value.slice (some ⟨rb, 0, none⟩) J.T.length c) := hb0.cell 0
      have hlz : (J.lost : Int) + 1 ≤ 9223372036854775807 := by omega
      have HGZ0 := Lib.hid hgw
      clear hb0 hce
      go_wp2_with fail
      refine ((ST.out).del_call hf).mono ?_
      rintro e w12 ⟨rfl, hbx, hro, hst⟩
      have d0 : _ = some _ := hbx.cell 0
      have d1 := hbx.free 0
      have d2 : _ = some _ := hbx.cell 1
      have d3 := hbx.free 1
      have STF := Lib.hid hst.lose
      have PB12 := Lib.hid (((PB.out.only hro (fun hr => by obtain ⟨_, _, cu, hcu⟩ := ST.out.row_ne hr; exact PB.out.ne_ hcu (by decide) rfl)).far (p := ⟨g, 0, none⟩) (by have := HGZ0.out; show w.heap.size ≠ g; omega) (.slice (some ⟨rb, 0, none⟩) (J.T.length - 1) c)).far (p := ⟨g, 1, none⟩) (by have := HGZ0.out; show w.heap.size ≠ g; omega) (.int .i64 ((J.lost : Int) + 1)))
      have HV12 := Lib.hid (((HV.out.only hro (fun b hb hr => (HSV.out b hb).2 (ST.out.row_ne hr).2.1)).only ((Only.refl (fun k => k = g) w12).setCell (p := ⟨g, 0, none⟩) (fun _ => rfl) (.slice (some ⟨rb, 0, none⟩) (J.T.length - 1) c)) (fun b hb e => (HSV.out b hb).1 e)).only ((Only.refl (fun k => k = g) (w12.setCell ⟨g, 0, none⟩ (.slice (some ⟨rb, 0, none⟩) (J.T.length - 1) c))).setCell (p := ⟨g, 1, none⟩) (fun _ => rfl) (.int .i64 ((J.lost : Int) + 1))) (fun b hb e => (HSV.out b hb).1 e))
      clear hbx hro hst m0
      go_wp2_with fail
      obtain ⟨W14, hW14⟩ : ∃ W14, (w12.setCell ⟨g, 0, none⟩ (.slice (some ⟨rb, 0, none⟩) (J.T.length - 1) c)).setCell ⟨g, 1, none⟩ (.int .i64 ((J.lost : Int) + 1)) = W14 := ⟨_, rfl⟩
      rw [hW14] at ⊢
      obtain ⟨T2, hT2⟩ : ∃ T2, J.T.eraseIdx f = T2 := ⟨_, rfl⟩
      obtain ⟨l2, hl2⟩ : ∃ l2, J.lost + 1 = l2 := ⟨_, rfl⟩
      obtain ⟨css2, hcss2⟩ : ∃ css2, css.eraseIdx f = css2 := ⟨_, rfl⟩
      have st14 := STF.out
      have pb14 := PB12.out
      have hv14 := HV12.out
      simp only [hW14, hT2, hl2, hcss2] at st14
      simp only [hW14] at pb14 hv14
      rw [hT2, hl2] at hdrop
      rw [hdrop] at hj2
      have HD := Lib.hid hdrop
      have HJ2 := Lib.hid hj2
      replace ST := Lib.hid st14
      replace PB := Lib.hid pb14
      replace HV := Lib.hid hv14
      have hl2b : l2 ≤ 1000001 := by omega
      clear st14 pb14 hv14 STF PB12 HV12 hW14 hT2 hcss2 d0 d1 d2 d3 hlz hdrop hj2 hl2 ht heq hf HGZ0
      have hj2 := HJ2.out
      have hjl : T2.length ≤ 16 := hj2.len
      try simp only at hjl
      have STB := Lib.hid ST.out.box
      obtain ⟨hRT, hRB⟩ := ST.out.row.tightB
      have RT := Lib.hid hRT
      have NRG := Lib.hid (show ∀ b, RowB (some ⟨rb, 0, none⟩) c b → b ≠ g ∧ w.heap.size ≠ b from fun b hb => ⟨(ST.out.row_ne hb).1, fun e => by
        obtain ⟨_, _, cu, hcu⟩ := ST.out.row_ne hb
        exact PB.out.ne_ hcu (by decide) e⟩)
      have hRR : ∀ b, RowB (some ⟨rb, 0, none⟩) c b → (R b ∨ New w b) := fun b hb => (ST.out.row_ne hb).2.1
      have LN := Lib.hid (show (newCells frm id cn).length = 132 from newCells_len _ _ _)
      have ONE := Lib.hid (show ∀ u ∈ newCells frm id cn, u.oneCell' = true from (TxIs.new w (fun _ => True) frm id cn).one)
      have HGZ := Lib.hid hgw
      obtain ⟨i0, hti, hz0, hz1, hz2⟩ := info_parts txinfo
      clear hj2 hRT hRB
      refine wp_region_N (fun b => b = g ∨ RowB (some ⟨rb, 0, none⟩) c b) (by kernel_rfl) ?_
      refine wpN_take (i := 0) (d := some 62) rfl rfl (by kernel_rfl) (by kernel_rfl) (by kernel_rfl) (fun _ _ _ h => h) (sure_value (v := .pointer (some ⟨g, 0, none⟩)) (by rfl) (fun v1 h1 => by first | rfl | (go_simp; done) | (go_simp; intro h9; exact absurd h9 (by omega)) | (go_simp; assumption))) (Only.refl _ _) ?_
      simp only [Act.put, List.setIfInBounds_toArray, List.set_cons_zero, List.set_cons_succ]
      refine wpN_take (i := 1) (d := some 63) rfl rfl (by kernel_rfl) (by kernel_rfl) (by kernel_rfl) (fun _ _ _ h => h) (sure_value (v := .pointer (some ⟨g, 0, none⟩)) (by rfl) (fun v1 h1 => by first | rfl | (go_simp; done) | (go_simp; intro h9; exact absurd h9 (by omega)) | (go_simp; assumption))) (Only.refl _ _) ?_
      simp only [Act.put, List.setIfInBounds_toArray, List.set_cons_zero, List.set_cons_succ]
      refine wpN_take (i := 2) (d := some 64) rfl rfl (by kernel_rfl) (by kernel_rfl) (by kernel_rfl) (fun _ _ _ h => h) (sure_value (v := .pointer (some ⟨g, 0, none⟩)) (by rfl) (fun v1 h1 => by first | rfl | (go_simp; done) | (go_simp; intro h9; exact absurd h9 (by omega)) | (go_simp; assumption))) (Only.refl _ _) ?_
      simp only [Act.put, List.setIfInBounds_toArray, List.set_cons_zero, List.set_cons_succ]
      refine wpN_take (i := 3) (d := some 65) rfl rfl (by kernel_rfl) (by kernel_rfl) (by kernel_rfl) (fun _ _ _ h => h) (sure_value (v := .pointer (some ⟨g, 0, none⟩)) (by rfl) (fun v1 h1 => by first | rfl | (go_simp; done) | (go_simp; intro h9; exact absurd h9 (by omega)) | (go_simp; assumption))) (Only.refl _ _) ?_
      simp only [Act.put, List.setIfInBounds_toArray, List.set_cons_zero, List.set_cons_succ]
      refine wpN_take (i := 5) (d := some 67) rfl rfl (by kernel_rfl) (by kernel_rfl) (by kernel_rfl) (fun _ _ _ h => h) (sure_value (v := .int .u16 frm) (by rfl) (fun v1 h1 => by first | rfl | (go_simp; done) | (go_simp; intro h9; exact absurd h9 (by omega)) | (go_simp; assumption))) (Only.refl _ _) ?_
      simp only [Act.put, List.setIfInBounds_toArray, List.set_cons_zero, List.set_cons_succ]
      refine wpN_take (i := 6) (d := some 68) rfl rfl (by kernel_rfl) (by kernel_rfl) (by kernel_rfl) (fun _ _ _ h => h) (sure_value (v := .pointer (some ⟨w.heap.size, 0, none⟩)) (by rfl) (fun v1 h1 => by first | rfl | (go_simp; done) | (go_simp; intro h9; exact absurd h9 (by omega)) | (go_simp; assumption))) (Only.refl _ _) ?_
      simp only [Act.put, List.setIfInBounds_toArray, List.set_cons_zero, List.set_cons_succ]
      refine wpN_take (i := 7) (d := some 69) rfl rfl (by kernel_rfl) (by kernel_rfl) (by kernel_rfl) (fun _ _ _ h => h) (sure_lit (v := .int .i64 id) (i := 0) PB.out.drew rfl (fun hh => hh.elim (fun e => absurd e (by have := HGZ.out; omega)) (fun hr => (NRG.out _ hr).2 rfl)) (by rfl) (fun _ h => by go_simp)) (Only.refl _ _) ?_
      simp only [Act.put, List.setIfInBounds_toArray, List.set_cons_zero, List.set_cons_succ]
      refine wpN_take (i := 8) (d := some 70) rfl rfl (by kernel_rfl) (by kernel_rfl) (by kernel_rfl) (fun _ _ _ h => h) (sure_value (v := .pointer (some ⟨w.heap.size, 2, none⟩)) (by rfl) (fun v1 h1 => by first | rfl | (go_simp; done) | (go_simp; intro h9; exact absurd h9 (by omega)) | (go_simp; assumption))) (Only.refl _ _) ?_
      simp only [Act.put, List.setIfInBounds_toArray, List.set_cons_zero, List.set_cons_succ]
      refine wpN_take (i := 9) (d := some 71) rfl rfl (by kernel_rfl) (by kernel_rfl) (by kernel_rfl) (fun _ _ _ h => h) (sure_lit (v := .int .i64 (cn : Int)) (i := 2) PB.out.drew rfl (fun hh => hh.elim (fun e => absurd e (by have := HGZ.out; omega)) (fun hr => (NRG.out _ hr).2 rfl)) (by rfl) (fun _ h => by go_simp)) (Only.refl _ _) ?_
      simp only [Act.put, List.setIfInBounds_toArray, List.set_cons_zero, List.set_cons_succ]
      refine wpN_take (i := 10) (d := some 72) rfl rfl (by kernel_rfl) (by kernel_rfl) (by kernel_rfl) (fun _ _ _ h => h) (sure_value (v := .pointer (some ⟨w.heap.size, 2, none⟩)) (by rfl) (fun v1 h1 => by first | rfl | (go_simp; done) | (go_simp; intro h9; exact absurd h9 (by omega)) | (go_simp; assumption))) (Only.refl _ _) ?_
      simp only [Act.put, List.setIfInBounds_toArray, List.set_cons_zero, List.set_cons_succ]
      refine wpN_take (i := 11) (d := some 73) rfl rfl (by kernel_rfl) (by kernel_rfl) (by kernel_rfl) (fun _ _ _ h => h) (sure_lit (v := .int .i64 (cn : Int)) (i := 2) PB.out.drew rfl (fun hh => hh.elim (fun e => absurd e (by have := HGZ.out; omega)) (fun hr => (NRG.out _ hr).2 rfl)) (by rfl) (fun _ h => by go_simp)) (Only.refl _ _) ?_
      simp only [Act.put, List.setIfInBounds_toArray, List.set_cons_zero, List.set_cons_succ]
      refine wpN_take (i := 12) (d := some 74) rfl rfl (by kernel_rfl) (by kernel_rfl) (by kernel_rfl) (fun _ _ _ h => h) (sure_value (v := .agg (newCells frm id cn).toArray) (by rfl) (fun _ _ => by first | rfl | kernel_rfl)) (Only.refl _ _) ?_
      simp only [Act.put, List.setIfInBounds_toArray, List.set_cons_zero, List.set_cons_succ]
      refine wpN_run2 (i := 4) (j := 13) (d := some 66) (d' := some 75) (fun v _ => v = .slice (some ⟨rb, 0, none⟩) T2.length c) (fun v W => ∃ p, v = .slice (some ⟨p, 0, none⟩) 1 1 ∧ Hld W p 79 (newCells frm id cn).toArray) (fun _ _ _ h _ => h) (fun _ _ _ h ho => by obtain ⟨p, h1, h2⟩ := h; exact ⟨p, h1, h2.only ho (fun h => h)⟩) (by kernel_rfl) (by kernel_rfl) (by kernel_rfl) (by decide) rfl rfl rfl rfl rfl rfl (by simp) (Only.refl _ _) (fun u w4 h4 => ?_) (fun u w4 h4 => ?_) ?_
      · have hc := (STB.out.only (Only.undrew h4) (fun h => h)).cell 0
        exact ⟨_, w4, by go_simp, by go_simp, rfl, Only.refl _ _⟩
      · exact ⟨.slice (some ⟨w4.heap.size, 0, none⟩) 1 1, w4.alloc (.cells (newCells frm id cn).toArray 79), buildSlice_op rfl rfl (build_slice_text frm id cn w4), buildSlice_op rfl rfl (build_slice_text frm id cn w4), ⟨_, rfl, Hld.new _ _ _⟩, (Only.refl _ _).alloc _⟩
      rintro v u w4 rfl ⟨p, rfl, hp⟩ h4
      simp only [Act.put, List.setIfInBounds_toArray, List.set_cons_zero, List.set_cons_succ]
      have O4 := Lib.hid (Only.undrew h4)
      have HP := Lib.hid hp
      have OF4 := Lib.hid (show Only (fun b => b = g ∨ RowB (some ⟨rb, 0, none⟩) c b) W14.drew w4 from h4.mono (fun j hj _ => hj.elim))
      clear h4 hp
      refine wpN_run1 (i := 14) (d := some 76) (fun v W2 => ∃ A' c' W', v = .slice A' (T2.length + 1) c' ∧ Only Noth W14 W' ∧ Row W2 (Plus (RowB (some ⟨rb, 0, none⟩) c) W' W2) 79 132 (.slice A' (T2.length + 1) c') (T2.length + 1) ((css2).flatten ++ newCells frm id cn) ∧ Only (RowB (some ⟨rb, 0, none⟩) c) W' W2) (by kernel_rfl) rfl rfl (by rfl) (fun w5 h5 => ?_) ?_
      · obtain ⟨v', w6, hr, hrow, ho, _⟩ := run_append_row (P := Tryd.prog) w5 72 72 79 i0 (.agg (newCells 0 0 0).toArray) 132 1632 Tryd.underlying72 hti hz0 hz1 hz2 (newCells_len 0 0 0) (RowB (some ⟨rb, 0, none⟩) c) _ _ T2.length _ ((RT.out.only O4.out (fun _ _ h => h)).only h5 (fun _ _ h => h)) (some ⟨p, 0, none⟩) 1 1 (newCells frm id cn) ((HP.out.only h5 (fun h => h)).src132 LN.out) ONE.out (by simp only [maxLen]; omega) (by omega)
        obtain ⟨A', c', rfl⟩ := hrow.shape
        exact ⟨_, w6, app_op rfl rfl rfl hr, ⟨A', c', w5, rfl, O4.out.tr h5, hrow, ho⟩, (OF4.out.tr h5).trans ho (fun j hj _ => .inr hj)⟩
      rintro v w6 ⟨A3, c3, w5, rfl, h5, hrow, ho⟩ h6
      simp only [Act.put, List.setIfInBounds_toArray, List.set_cons_zero, List.set_cons_succ]
      have HRW := Lib.hid hrow
      have HRO := Lib.hid ho
      have H5 := Lib.hid h5
      clear hrow ho h5
      refine wpN_take (i := 15) (d := some 77) rfl rfl (by kernel_rfl) (by kernel_rfl) (by kernel_rfl) (fun _ _ _ h => h) (sure_value (v := .pointer (some ⟨g, 0, none⟩)) (by rfl) (fun v1 h1 => by first | rfl | (go_simp; done) | (go_simp; intro h9; exact absurd h9 (by omega)) | (go_simp; assumption))) h6 ?_
      simp only [Act.put, List.setIfInBounds_toArray, List.set_cons_zero, List.set_cons_succ]
      refine wpN_take (i := 16) (d := some 78) rfl rfl (by kernel_rfl) (by kernel_rfl) (by kernel_rfl) (fun _ _ _ h => h) (sure_value (v := .pointer (some ⟨g, 0, none⟩)) (by rfl) (fun v1 h1 => by first | rfl | (go_simp; done) | (go_simp; intro h9; exact absurd h9 (by omega)) | (go_simp; assumption))) h6 ?_
      simp only [Act.put, List.setIfInBounds_toArray, List.set_cons_zero, List.set_cons_succ]
      refine wpN_cell (i := 17) (off := 0) (g := g) (v := .slice A3 (T2.length + 1) c3) (by kernel_rfl) rfl (by rfl) rfl rfl rfl rfl ((STB.out.only H5.out (fun h => h)).only HRO.out (fun hr => (NRG.out _ hr).1 rfl)) rfl (fun w1 h1 h2 => by go_simp) h6 (fun _ => .inl rfl) ?_
      intro w7 w8 ho7 hg8 ho8 hS8
      refine wpN_done (by kernel_rfl) (fun w9 ho9 => ?_) _
      have hb9 : Hld w9 g 74 #[.slice A3 (T2.length + 1) c3, .int .i64 l2] := by
        have := hg8.only ho9 (fun h => h)
        simpa using this
      have h69 : Only (fun k => k = g) w6 w9 := ((ho7.mono (fun j hj _ => hj.elim)).trans ho8 (fun j hj _ => hj)).trans ho9 (fun j hj _ => hj.elim)
      have hrow9 := ST.out.snoc (t := ⟨frm, id, List.replicate cn none⟩) H5.out HRW.out HRO.out (fun V => TxIs.new V _ frm id cn) hb9 h69
      have h59 : Only (fun b => b = g ∨ RowB (some ⟨rb, 0, none⟩) c b) W14 w9 := ((H5.out.mono (fun j hj _ => hj.elim)).trans HRO.out (fun j hj _ => .inr hj)).trans h69 (fun j hj _ => .inl hj)
      replace ST := Lib.hid hrow9
      replace PB := Lib.hid (PB.out.only h59 (fun hh => hh.elim (fun e => absurd e (by have := HGZ.out; omega)) (fun hr => (NRG.out _ hr).2 rfl)))
      replace HV := Lib.hid (HV.out.only h59 (fun b hb hh => hh.elim (fun e => (HSV.out b hb).1 e) (fun hr => (HSV.out b hb).2 (hRR b hr))))
      clear ho7 hg8 ho8 hS8 ho9 hb9 h69 hrow9 h59 h6 HRW HRO H5 O4 HP OF4 STB RT
      obtain ⟨T3, hT3⟩ : ∃ T3, T2 ++ [(⟨frm, id, List.replicate cn none⟩ : Tx)] = T3 := ⟨_, rfl⟩
      have hl3 : T3.length = T2.length + 1 := by rw [← hT3]; simp
      obtain ⟨css3, hcss3⟩ : ∃ css3, (css2) ++ [newCells frm id cn] = css3 := ⟨_, rfl⟩
      have hst3 := ST.out
      simp only [hT3, hcss3] at hst3
      replace ST := Lib.hid hst3
      have HT3 := Lib.hid hT3
      have hbx := ST.out.box
      try simp only at hbx
      rw [← hl3]
      have m0 : _ = some (Value.slice A3 T3.length c3) := hbx.cell 0
      have m1 : _ = some (Value.int .i64 l2) := hbx.cell 1
      clear hst3 hcss3 hT3 hbx NRG hz0 hz1 hz2 hti hRR
      have hz9 : (l2 : Int) + 1 ≤ 9223372036854775807 := by first | omega | (simp only; omega)
      have HL3 := Lib.hid hl3
      have hl3a : T3.length ≤ 17 := by omega
      have hl3b : 1 ≤ T3.length := by omega
      clear hl3
      by_cases hbig : (16 : Int) < T3.length
      · go_wp2_with fail
        have h0 := (ST.out).del_call (i := 0) (by first | omega | (simp only; omega))
        simp only [Int.natCast_zero, Int.zero_add] at h0
        refine h0.mono ?_
        rintro e w12 ⟨rfl, hbx, hro, hst⟩
        have d0 : _ = some _ := hbx.cell 0
        have d1 := hbx.free 0
        have d2 : _ = some _ := hbx.cell 1
        have d3 := hbx.free 1
        have STF := Lib.hid hst.lose
        have PB12 := Lib.hid (((PB.out.only hro (fun hr => by obtain ⟨_, _, cu, hcu⟩ := ST.out.row_ne hr; exact PB.out.ne_ hcu (by decide) rfl)).far (p := ⟨g, 0, none⟩) (by have := HGZ.out; show w.heap.size ≠ g; omega) (.slice A3 (T3.length - 1) c3)).far (p := ⟨g, 1, none⟩) (by have := HGZ.out; show w.heap.size ≠ g; omega) (.int .i64 ((l2 : Int) + 1)))
        have HV12 := Lib.hid (((HV.out.only hro (fun b hb hr => (HSV.out b hb).2 (ST.out.row_ne hr).2.1)).only ((Only.refl (fun k => k = g) w12).setCell (p := ⟨g, 0, none⟩) (fun _ => rfl) (.slice A3 (T3.length - 1) c3)) (fun b hb e => (HSV.out b hb).1 e)).only ((Only.refl (fun k => k = g) (w12.setCell ⟨g, 0, none⟩ (.slice A3 (T3.length - 1) c3))).setCell (p := ⟨g, 1, none⟩) (fun _ => rfl) (.int .i64 ((l2 : Int) + 1))) (fun b hb e => (HSV.out b hb).1 e))
        clear hbx hro hst m0 m1 h0
        go_wp2_with fail
        obtain ⟨W13, hW13⟩ : ∃ W13, (w12.setCell ⟨g, 0, none⟩ (.slice A3 (T3.length - 1) c3)).setCell ⟨g, 1, none⟩ (.int .i64 ((l2 : Int) + 1)) = W13 := ⟨_, rfl⟩
        rw [hW13] at ⊢
        have st13 := STF.out
        have pb13 := PB12.out
        have hv13 := HV12.out
        simp only [hW13] at st13 pb13 hv13
        obtain ⟨T5, hT5⟩ : ∃ T5, T3.eraseIdx 0 = T5 := ⟨_, rfl⟩
        have HL5 := Lib.hid (show T5.length = T3.length - 1 by rw [← hT5, List.length_eraseIdx_of_lt (by omega)])
        simp only [hT5] at st13
        replace ST := Lib.hid st13
        replace PB := Lib.hid pb13
        replace HV := Lib.hid hv13
        obtain ⟨i3, hi3⟩ : ∃ i3 : Nat, ((T3.length - 1 : Nat) : Int) - 1 = (i3 : Int) := ⟨T3.length - 1 - 1, by omega⟩
        rw [hi3]
        have HO := Lib.hid (show J.open_ frm id cn = (⟨T5, l2 + 1⟩, i3) from by
          have hn : (J.drop frm id).new frm id cn = ⟨T5, l2 + 1⟩ := by
            rw [HD.out]
            unfold Jn.new
            rw [if_pos (by have := HL3.out; first | omega | (simp only; omega))]
            simp only [HT3.out, hT5]
          unfold Jn.open_
          rw [if_neg (by rw [HFT.out]; decide), hn]
          simp only
          congr 1
          have := HL5.out
          omega)
        clear st13 pb13 hv13 STF PB12 HV12 hW13 hT5 d0 d1 d2 d3 HT3 hi3 hz9
        obtain ⟨hJok, t, ht, htl, htf, hti⟩ := OPOK.out
        rw [HO.out] at hJok ht
        have JOK := Lib.hid hJok
        have HT := Lib.hid ht
        have hil := (List.getElem?_eq_some_iff.1 ht).1
        have hi16 := hJok.len
        simp only at hil hi16
        have hi17 : ((⟨T5, l2 + 1⟩ : Jn)).T.length ≤ 17 := Nat.le_trans hi16 (by omega)
        obtain ⟨rb2, cur, cs, hA, hcz, hcur, htx, hin⟩ := ST.out.blk ht
        subst hA
        obtain ⟨rb, rfl⟩ : ∃ x, x = rb2 := ⟨_, rfl⟩
        have htok := hJok.all t (List.mem_of_getElem? ht)
        have TOK := Lib.hid htok
        have CUR := Lib.hid hcur
        have TXI := Lib.hid htx
        have HIN := Lib.hid hin
        have hn64 : t.pcs.length ≤ 64 := htok.n2
        have NRB := Lib.hid (show rb ≠ g ∧ (R rb ∨ New w rb) from ⟨(ST.out.row_ne ⟨hcz, rfl⟩).1, (ST.out.row_ne ⟨hcz, rfl⟩).2.1⟩)
        have NPB := Lib.hid (show w.heap.size ≠ rb from PB.out.ne_ hcur (by decide))
        have STB := Lib.hid ST.out.box
        have m0 : _ = some (Value.slice (some ⟨rb, 0, none⟩) ((⟨T5, l2 + 1⟩ : Jn)).T.length c3) := STB.out.cell 0
        have HPUT := Lib.hid (show jadd J frm ⟨id, (k : Int), (cn : Int), bs⟩ = if (t.put k bs).left = 0 then (⟨((⟨T5, l2 + 1⟩ : Jn)).T.eraseIdx (i3), ((⟨T5, l2 + 1⟩ : Jn)).lost⟩, some (t.put k bs).whole, 0) else (⟨((⟨T5, l2 + 1⟩ : Jn)).T.set (i3) (t.put k bs), ((⟨T5, l2 + 1⟩ : Jn)).lost⟩, none, 0) by
          rw [HJ.out, HO.out]
          unfold Jn.at_
          simp only
          rw [ht]
          simp only [Option.getD_some]
          split <;> rfl)
        have hib : (i3) ≤ 100 := by omega
        clear hJok ht hcur htx hin htok
        refine wp_region_N (fun b => b = rb) (by kernel_rfl) ?_
        refine wpN_take (i := 0) (d := some 106) rfl rfl (by kernel_rfl) (by kernel_rfl) (by kernel_rfl) (fun _ _ _ h => h) (sure_value (v := .pointer (some ⟨g, 0, none⟩)) (by rfl) (fun v1 h1 => by first | rfl | (go_simp; done) | (go_simp; intro h9; exact absurd h9 (by omega)) | (go_simp; assumption))) (Only.refl _ _) ?_
        simp only [Act.put, List.setIfInBounds_toArray, List.set_cons_zero, List.set_cons_succ]
        refine wpN_take (i := 1) (d := some 107) rfl rfl (by kernel_rfl) (by kernel_rfl) (by kernel_rfl) (fun _ _ _ h => h) (sure_value (v := .pointer (some ⟨g, 0, none⟩)) (by rfl) (fun v1 h1 => by first | rfl | (go_simp; done) | (go_simp; intro h9; exact absurd h9 (by omega)) | (go_simp; assumption))) (Only.refl _ _) ?_
        simp only [Act.put, List.setIfInBounds_toArray, List.set_cons_zero, List.set_cons_succ]
        refine wpN_take (i := 2) (d := some 108) rfl rfl (by kernel_rfl) (by kernel_rfl) (by kernel_rfl) (fun _ _ _ h => h) (sure_value (v := .pointer (some ⟨g, 0, none⟩)) (by rfl) (fun v1 h1 => by first | rfl | (go_simp; done) | (go_simp; intro h9; exact absurd h9 (by omega)) | (go_simp; assumption))) (Only.refl _ _) ?_
        simp only [Act.put, List.setIfInBounds_toArray, List.set_cons_zero, List.set_cons_succ]
        refine wpN_take (i := 3) (d := some 109) rfl rfl (by kernel_rfl) (by kernel_rfl) (by kernel_rfl) (fun _ _ _ h => h) (sure_lit (v := .slice (some ⟨rb, 0, none⟩) ((⟨T5, l2 + 1⟩ : Jn)).T.length c3) (i := 0) STB.out.drew rfl (fun hh => NRB.out.1 hh.symm) (by rfl) (fun _ h => by go_simp)) (Only.refl _ _) ?_
        simp only [Act.put, List.setIfInBounds_toArray, List.set_cons_zero, List.set_cons_succ]
        refine wpN_take (i := 4) (d := some 110) rfl rfl (by kernel_rfl) (by kernel_rfl) (by kernel_rfl) (fun _ _ _ h => h) (sure_value (v := .int .i64 ((i3 : Int))) (by rfl) (fun v1 h1 => by first | rfl | (go_simp; done) | (go_simp; intro h9; exact absurd h9 (by omega)) | (go_simp; assumption))) (Only.refl _ _) ?_
        simp only [Act.put, List.setIfInBounds_toArray, List.set_cons_zero, List.set_cons_succ]
        refine wpN_take (i := 5) (d := some 111) rfl rfl (by kernel_rfl) (by kernel_rfl) (by kernel_rfl) (fun _ _ _ h => h) (sure_value (v := .pointer (some ⟨rb, (i3) * 132, none⟩)) (by rfl) (fun v1 h1 => by first | rfl | (go_simp; done) | (go_simp; intro h9; exact absurd h9 (by omega)) | (go_simp; assumption))) (Only.refl _ _) ?_
        simp only [Act.put, List.setIfInBounds_toArray, List.set_cons_zero, List.set_cons_succ]
        refine wpN_take (i := 6) (d := some 112) rfl rfl (by kernel_rfl) (by kernel_rfl) (by kernel_rfl) (fun _ _ _ h => h) (sure_four PB.out.drew (fun hh => NPB.out hh) (by rfl) (fun _ h0 h1 h2 h3 => by go_simp)) (Only.refl _ _) ?_
        simp only [Act.put, List.setIfInBounds_toArray, List.set_cons_zero, List.set_cons_succ]
        refine wpN_call (i := 7) (d := some 113) (T := fun u w1 w' => u = .bool (decide (((t.put k bs).left : Int) = 0)) ∧ AddLeft W13 (fun b => (S b ∨ New w b) ∧ ¬ RowB (some ⟨rb, 0, none⟩) c3 b) rb (i3) cur (t.put k bs) w' ∧ Only (fun b => b = rb) W13 w') (fun w1 h1 => (text_add rb (i3) k id cn bs (.slice A0 bs.length c0) cur cs t _ _ w1 (CUR.out.only (Only.undrew h1) (fun h => h)) HIN.out (TXI.out.only (Only.undrew h1) (fun _ _ h => h)) (fun b hb e => hb.2 ⟨hcz, by rw [e]⟩) (by omega) hn64 TOK.out.left (HV.out.noth (Only.undrew h1)) (fun b hb e => (HSV.out b hb).2 (e ▸ NRB.out.2)) hm7).mono (fun r w' h => by obtain ⟨e1, e2, e3⟩ := h; exact ⟨_, e1, ⟨rfl, e2.up (Only.undrew h1).size, ((Only.undrew h1).mono (G := fun b => b = rb) (fun j hj _ => hj.elim)).trans e3 (fun j hj _ => hj)⟩, (h1.mono (G := fun b => b = rb) (fun j hj _ => hj.elim)).trans e3 (fun j hj _ => hj)⟩)) (by kernel_rfl) rfl rfl (by rfl) (fun _ => by go_simp) ?_
        rintro u w5 w6 h5 ⟨rfl, hleft, honly⟩ h6
        simp only [Act.put, List.setIfInBounds_toArray, List.set_cons_zero, List.set_cons_succ]
        refine wpN_take (i := 8) (d := some 114) rfl rfl (by kernel_rfl) (by kernel_rfl) (by kernel_rfl) (fun _ _ _ h => h) (sure_value (v := .bool (!decide (((t.put k bs).left : Int) = 0))) (by rfl) (fun v1 h1 => by first | rfl | (go_simp; done) | (go_simp; intro h9; exact absurd h9 (by omega)) | (go_simp; assumption))) h6 ?_
        simp only [Act.put, List.setIfInBounds_toArray, List.set_cons_zero, List.set_cons_succ]
        refine wpN_done (by kernel_rfl) (fun w7 ho => ?_) _
        obtain ⟨css4, hst4⟩ := (ST.out).put hil rfl hcz CUR.out hleft honly
        obtain ⟨T4, hT4⟩ : ∃ T4, ((⟨T5, l2 + 1⟩ : Jn)).T.set (i3) (t.put k bs) = T4 := ⟨_, rfl⟩
        simp only [hT4] at hst4
        have hp4 := HPUT.out
        simp only [hT4] at hp4
        replace HPUT := Lib.hid hp4
        have hil4 : (i3) < T4.length := by rw [← hT4, List.length_set]; exact hil
        have hle4 : T4.length ≤ 17 := by rw [← hT4, List.length_set]; exact hi17
        have HER := Lib.hid (show T4.eraseIdx (i3) = ((⟨T5, l2 + 1⟩ : Jn)).T.eraseIdx (i3) by rw [← hT4, List.eraseIdx_set_eq])
        have HAT := Lib.hid (show T4[i3]? = some (t.put k bs) by rw [← hT4]; exact List.getElem?_set_self hil)
        clear hT4 hp4
        replace ST := Lib.hid (hst4.noth ho)
        replace PB := Lib.hid ((PB.out.only honly NPB.out).only ho (fun h => h))
        clear h5 hleft honly h6 ho hst4 m0 STB CUR TXI HIN
        by_cases hdone : (t.put k bs).left = 0
        · have hd : decide (((t.put k bs).left : Int) = 0) = true := by simpa using hdone
          rw [hd]
          have HR := Lib.hid (HPUT.out.trans (if_pos hdone))
          obtain ⟨rb3, cur3, cs3, hA3, hcz3, hcur3, htx3, hin3⟩ := ST.out.blk HAT.out
          injection hA3 with hA3
          injection hA3 with hA3
          subst hA3
          have hlsn : ((t.put k bs).pcs.map (·.getD [])).length = cn := by rw [List.length_map, Tx.put_len, htl]
          have hsm := Tx.put_small (k := k) TOK.out.small hm7
          have hsz : ((t.put k bs).pcs.map (·.getD [])).flatten.length ≤ 1000000 := by
            have h1 := flat_small (ls := (t.put k bs).pcs.map (·.getD [])) (n := 8192) (fun l hl => by
              obtain ⟨x, hx, rfl⟩ := List.mem_map.1 hl
              cases x with
              | none => simp
              | some y => simpa using hsm y hx)
            rw [hlsn] at h1
            have : cn * 8192 ≤ 64 * 8192 := Nat.mul_le_mul_right _ (by omega)
            omega
          have PS := Lib.hid (show PsAt w7 (fun b => (S b ∨ New w b) ∧ ¬ RowB (some ⟨rb, 0, none⟩) c3 b) rb ((i3) * 132 + 68) ((t.put k bs).pcs.map (·.getD [])) from ⟨hcur3.lt, fun j l hj => by
            have hjl : j < cn := by have := (List.getElem?_eq_some_iff.1 hj).1; rw [hlsn] at this; exact this
            obtain ⟨u, hu, hbu⟩ := htx3.part j (by omega)
            have hc := (hcur3.cell _).trans (hin3 _ _ hu)
            rw [← Nat.add_assoc] at hc
            have hl : l = (t.put k bs).piece j := by
              unfold Tx.piece
              rw [List.getElem?_map] at hj
              cases hx : (t.put k bs).pcs[j]? with
              | none => rw [hx] at hj; cases hj
              | some x =>
                rw [hx] at hj
                injection hj with hj
                rw [← hj]
                cases x <;> rfl
            rw [hl]
            exact ⟨u, hc, hbu⟩⟩)
          have CONC := Lib.hid (fun W => concat_run rb ((i3) * 132 + 68) 64 (fun b => (S b ∨ New w b) ∧ ¬ RowB (some ⟨rb, 0, none⟩) c3 b) ((t.put k bs).pcs.map (·.getD [])) (by omega) hsz W)
          have HLS := Lib.hid hlsn
          have HWH := Lib.hid (show ((t.put k bs).pcs.map (·.getD [])).flatten = (t.put k bs).whole from rfl)
          have STB := Lib.hid ST.out.box
          have m0 : _ = some (Value.slice (some ⟨rb, 0, none⟩) T4.length c3) := STB.out.cell 0
          clear hcur3 htx3 hin3 hsz hsm hlsn
          go_wp2_with fail
          refine wp_region_N Noth (by kernel_rfl) ?_
          refine wpN_take (i := 0) (d := some 115) rfl rfl (by kernel_rfl) (by kernel_rfl) (by kernel_rfl) (fun _ _ _ h => h) (sure_value (v := .pointer (some ⟨g, 0, none⟩)) (by rfl) (fun v1 h1 => by first | rfl | (go_simp; done) | (go_simp; intro h9; exact absurd h9 (by omega)) | (go_simp; assumption))) (Only.refl _ _) ?_
          simp only [Act.put, List.setIfInBounds_toArray, List.set_cons_zero, List.set_cons_succ]
          refine wpN_take (i := 1) (d := some 116) rfl rfl (by kernel_rfl) (by kernel_rfl) (by kernel_rfl) (fun _ _ _ h => h) (sure_value (v := .pointer (some ⟨g, 0, none⟩)) (by rfl) (fun v1 h1 => by first | rfl | (go_simp; done) | (go_simp; intro h9; exact absurd h9 (by omega)) | (go_simp; assumption))) (Only.refl _ _) ?_
          simp only [Act.put, List.setIfInBounds_toArray, List.set_cons_zero, List.set_cons_succ]
          refine wpN_take (i := 2) (d := some 117) rfl rfl (by kernel_rfl) (by kernel_rfl) (by kernel_rfl) (fun _ _ _ h => h) (sure_value (v := .pointer (some ⟨g, 0, none⟩)) (by rfl) (fun v1 h1 => by first | rfl | (go_simp; done) | (go_simp; intro h9; exact absurd h9 (by omega)) | (go_simp; assumption))) (Only.refl _ _) ?_
          simp only [Act.put, List.setIfInBounds_toArray, List.set_cons_zero, List.set_cons_succ]
          refine wpN_take (i := 3) (d := some 118) rfl rfl (by kernel_rfl) (by kernel_rfl) (by kernel_rfl) (fun _ _ _ h => h) (sure_lit (v := .slice (some ⟨rb, 0, none⟩) T4.length c3) (i := 0) STB.out.drew rfl (fun h => h) (by rfl) (fun _ h => by go_simp)) (Only.refl _ _) ?_
          simp only [Act.put, List.setIfInBounds_toArray, List.set_cons_zero, List.set_cons_succ]
          refine wpN_take (i := 4) (d := some 119) rfl rfl (by kernel_rfl) (by kernel_rfl) (by kernel_rfl) (fun _ _ _ h => h) (sure_value (v := .int .i64 ((i3 : Int))) (by rfl) (fun v1 h1 => by first | rfl | (go_simp; done) | (go_simp; intro h9; exact absurd h9 (by omega)) | (go_simp; assumption))) (Only.refl _ _) ?_
          simp only [Act.put, List.setIfInBounds_toArray, List.set_cons_zero, List.set_cons_succ]
          refine wpN_take (i := 5) (d := some 120) rfl rfl (by kernel_rfl) (by kernel_rfl) (by kernel_rfl) (fun _ _ _ h => h) (sure_value (v := .pointer (some ⟨rb, (i3) * 132, none⟩)) (by rfl) (fun v1 h1 => by go_simp)) (Only.refl _ _) ?_
          simp only [Act.put, List.setIfInBounds_toArray, List.set_cons_zero, List.set_cons_succ]
          refine wpN_take (i := 6) (d := some 121) rfl rfl (by kernel_rfl) (by kernel_rfl) (by kernel_rfl) (fun _ _ _ h => h) (sure_value (v := .pointer (some ⟨rb, (i3) * 132 + 68, none⟩)) (by rfl) (fun v1 h1 => by first | rfl | (go_simp; done) | (go_simp; intro h9; exact absurd h9 (by omega)) | (go_simp; assumption))) (Only.refl _ _) ?_
          simp only [Act.put, List.setIfInBounds_toArray, List.set_cons_zero, List.set_cons_succ]
          refine wpN_take (i := 7) (d := some 122) rfl rfl (by kernel_rfl) (by kernel_rfl) (by kernel_rfl) (fun _ _ _ h => h) (sure_value (v := .pointer (some ⟨w.heap.size, 2, none⟩)) (by rfl) (fun v1 h1 => by first | rfl | (go_simp; done) | (go_simp; intro h9; exact absurd h9 (by omega)) | (go_simp; assumption))) (Only.refl _ _) ?_
          simp only [Act.put, List.setIfInBounds_toArray, List.set_cons_zero, List.set_cons_succ]
          refine wpN_take (i := 8) (d := some 123) rfl rfl (by kernel_rfl) (by kernel_rfl) (by kernel_rfl) (fun _ _ _ h => h) (sure_lit (v := .int .i64 (cn : Int)) (i := 2) PB.out.drew rfl (fun h => h) (by rfl) (fun _ h => by go_simp)) (Only.refl _ _) ?_
          simp only [Act.put, List.setIfInBounds_toArray, List.set_cons_zero, List.set_cons_succ]
          refine wpN_take (i := 9) (d := some 124) rfl rfl (by kernel_rfl) (by kernel_rfl) (by kernel_rfl) (fun _ _ _ h => h) (sure_value (v := .slice (some ⟨rb, (i3) * 132 + 68, none⟩) cn 64) (by rfl) (fun v1 h1 => by first | rfl | (go_simp; done) | (go_simp; intro h9; exact absurd h9 (by omega)) | (go_simp; assumption))) (Only.refl _ _) ?_
          simp only [Act.put, List.setIfInBounds_toArray, List.set_cons_zero, List.set_cons_succ]
          refine wpN_call (i := 10) (d := some 125) (T := fun u w1 w' => BsAt w' (New w7) u ((t.put k bs).pcs.map (·.getD [])).flatten ∧ Only Noth w7 w') (fun w1 h1 => by
            have hcc := CONC.out w1 (PS.out.noth (Only.undrew h1))
            rw [HLS.out] at hcc
            refine hcc.mono (fun r w' h => ?_)
            obtain ⟨⟨u, e1, e2⟩, e3⟩ := h
            exact ⟨u, e1, ⟨e2.mono (fun j hj _ => Nat.le_trans (Only.undrew h1).size hj), Only.undrew (h1.tr e3)⟩, h1.tr e3⟩) (by kernel_rfl) rfl rfl (by rfl) (fun _ => by go_simp) ?_
          rintro u8 w8 w9 h8 ⟨hub, h3⟩ h9
          simp only [Act.put, List.setIfInBounds_toArray, List.set_cons_zero, List.set_cons_succ]
          refine wpN_take (i := 11) (d := some 10) rfl rfl (by kernel_rfl) (by kernel_rfl) (by kernel_rfl) (fun _ _ _ h => h) (sure_value (v := u8) (by rfl) (fun v1 h1 => by first | rfl | (go_simp; done) | (go_simp; intro h9; exact absurd h9 (by omega)) | (go_simp; assumption))) h9 ?_
          simp only [Act.put, List.setIfInBounds_toArray, List.set_cons_zero, List.set_cons_succ]
          refine wpN_done (by kernel_rfl) (fun w10 ho => ?_) _
          have ST8 := Lib.hid (ST.out.noth (h3.tr ho))
          have UB := Lib.hid (hub.noth ho)
          have hz7 := (ST.out).only.size
          have hRW := Lib.hid (fun j (hj : RowB (some ⟨rb, 0, none⟩) c3 j) => show j < w7.heap.size from by obtain ⟨_, _, cu, hcu⟩ := ST.out.row_ne hj; exact hcu.lt)
          have hgW := Lib.hid (show g < w7.heap.size from STB.out.lt)
          have m0 : _ = some (Value.slice (some ⟨rb, 0, none⟩) T4.length c3) := ST8.out.box.cell 0
          clear ho hub h3 STB PS CONC
          go_wp2_with fail
          refine ((ST8.out).del_call hil4).mono ?_
          rintro e w12 ⟨rfl, hbx, hro, hst⟩
          have d0 : _ = some _ := hbx.cell 0
          have d1 := hbx.free 0
          have STF := Lib.hid hst
          have UF := Lib.hid (((UB.out.only hro (fun b hb hr => by have hb : w7.heap.size ≤ b := hb; have := hRW.out b hr; omega)).only ((Only.refl (fun k => k = g) w12).setCell (p := ⟨g, 0, none⟩) (fun _ => rfl) (.slice (some ⟨rb, 0, none⟩) (T4.length - 1) c3)) (fun b hb e => by have hb : w7.heap.size ≤ b := hb; have e : b = g := e; have := hgW.out; omega)).mono (fun b hb _ => show New w b from Nat.le_trans hz7 hb))
          have hjok := jadd_ok HOK.out frm ⟨id, (k : Int), (cn : Int), bs⟩
          rw [HR.out] at hjok
          have JK := Lib.hid hjok
          clear hbx hro hst hjok m0
          go_wp2
          refine bodyPost_ret (v := .tuple #[u8, .bool true, .int .i64 0]) (by simp [results, Tryd.results13, go_sem]) rfl ?_
          rw [HR.out]
          have STG := STF.out
          simp only [HER.out] at STG
          exact ⟨⟨_, rfl, by rw [← HWH.out]; exact UF.out⟩, STG.join JK.out, STG.only⟩
        · have hd : decide (((t.put k bs).left : Int) = 0) = false := by simpa using hdone
          rw [hd]
          have HR := Lib.hid (HPUT.out.trans (if_neg hdone))
          have hjok := jadd_ok HOK.out frm ⟨id, (k : Int), (cn : Int), bs⟩
          rw [HR.out] at hjok
          have JK := Lib.hid hjok
          clear hjok
          go_wp2_with fail
          refine bodyPost_ret (v := .tuple #[.slice none 0 0, .bool false, .int .i64 0]) (by simp [results, Tryd.results13, go_sem]) rfl ?_
          rw [HR.out]
          exact ⟨⟨_, rfl, BsAt.nil _ _⟩, ST.out.join JK.out, ST.out.only⟩
      · go_wp2_with fail
        obtain ⟨i3, hi3⟩ : ∃ i3 : Nat, (T3.length : Int) - 1 = (i3 : Int) := ⟨T3.length - 1, by omega⟩
        rw [hi3]
        have HO := Lib.hid (show J.open_ frm id cn = (⟨T3, l2⟩, i3) from by
          have hn : (J.drop frm id).new frm id cn = ⟨T3, l2⟩ := by
            rw [HD.out]
            unfold Jn.new
            rw [if_neg (by have := HL3.out; first | omega | (simp only; omega))]
            simp only [HT3.out]
          unfold Jn.open_
          rw [if_neg (by rw [HFT.out]; decide), hn]
          simp only
          congr 1
          omega)
        clear HT3 m0 m1 hi3 hz9
        obtain ⟨hJok, t, ht, htl, htf, hti⟩ := OPOK.out
        rw [HO.out] at hJok ht
        have JOK := Lib.hid hJok
        have HT := Lib.hid ht
        have hil := (List.getElem?_eq_some_iff.1 ht).1
        have hi16 := hJok.len
        simp only at hil hi16
        have hi17 : ((⟨T3, l2⟩ : Jn)).T.length ≤ 17 := Nat.le_trans hi16 (by omega)
        obtain ⟨rb2, cur, cs, hA, hcz, hcur, htx, hin⟩ := ST.out.blk ht
        subst hA
        obtain ⟨rb, rfl⟩ : ∃ x, x = rb2 := ⟨_, rfl⟩
        have htok := hJok.all t (List.mem_of_getElem? ht)
        have TOK := Lib.hid htok
        have CUR := Lib.hid hcur
        have TXI := Lib.hid htx
        have HIN := Lib.hid hin
        have hn64 : t.pcs.length ≤ 64 := htok.n2
        have NRB := Lib.hid (show rb ≠ g ∧ (R rb ∨ New w rb) from ⟨(ST.out.row_ne ⟨hcz, rfl⟩).1, (ST.out.row_ne ⟨hcz, rfl⟩).2.1⟩)
        have NPB := Lib.hid (show w.heap.size ≠ rb from PB.out.ne_ hcur (by decide))
        have STB := Lib.hid ST.out.box
        have m0 : _ = some (Value.slice (some ⟨rb, 0, none⟩) ((⟨T3, l2⟩ : Jn)).T.length c3) := STB.out.cell 0
        have HPUT := Lib.hid (show jadd J frm ⟨id, (k : Int), (cn : Int), bs⟩ = if (t.put k bs).left = 0 then (⟨((⟨T3, l2⟩ : Jn)).T.eraseIdx (i3), ((⟨T3, l2⟩ : Jn)).lost⟩, some (t.put k bs).whole, 0) else (⟨((⟨T3, l2⟩ : Jn)).T.set (i3) (t.put k bs), ((⟨T3, l2⟩ : Jn)).lost⟩, none, 0) by
          rw [HJ.out, HO.out]
          unfold Jn.at_
          simp only
          rw [ht]
          simp only [Option.getD_some]
          split <;> rfl)
        have hib : (i3) ≤ 100 := by omega
        clear hJok ht hcur htx hin htok
        refine wp_region_N (fun b => b = rb) (by kernel_rfl) ?_
        refine wpN_take (i := 0) (d := some 106) rfl rfl (by kernel_rfl) (by kernel_rfl) (by kernel_rfl) (fun _ _ _ h => h) (sure_value (v := .pointer (some ⟨g, 0, none⟩)) (by rfl) (fun v1 h1 => by first | rfl | (go_simp; done) | (go_simp; intro h9; exact absurd h9 (by omega)) | (go_simp; assumption))) (Only.refl _ _) ?_
        simp only [Act.put, List.setIfInBounds_toArray, List.set_cons_zero, List.set_cons_succ]
        refine wpN_take (i := 1) (d := some 107) rfl rfl (by kernel_rfl) (by kernel_rfl) (by kernel_rfl) (fun _ _ _ h => h) (sure_value (v := .pointer (some ⟨g, 0, none⟩)) (by rfl) (fun v1 h1 => by first | rfl | (go_simp; done) | (go_simp; intro h9; exact absurd h9 (by omega)) | (go_simp; assumption))) (Only.refl _ _) ?_
        simp only [Act.put, List.setIfInBounds_toArray, List.set_cons_zero, List.set_cons_succ]
        refine wpN_take (i := 2) (d := some 108) rfl rfl (by kernel_rfl) (by kernel_rfl) (by kernel_rfl) (fun _ _ _ h => h) (sure_value (v := .pointer (some ⟨g, 0, none⟩)) (by rfl) (fun v1 h1 => by first | rfl | (go_simp; done) | (go_simp; intro h9; exact absurd h9 (by omega)) | (go_simp; assumption))) (Only.refl _ _) ?_
        simp only [Act.put, List.setIfInBounds_toArray, List.set_cons_zero, List.set_cons_succ]
        refine wpN_take (i := 3) (d := some 109) rfl rfl (by kernel_rfl) (by kernel_rfl) (by kernel_rfl) (fun _ _ _ h => h) (sure_lit (v := .slice (some ⟨rb, 0, none⟩) ((⟨T3, l2⟩ : Jn)).T.length c3) (i := 0) STB.out.drew rfl (fun hh => NRB.out.1 hh.symm) (by rfl) (fun _ h => by go_simp)) (Only.refl _ _) ?_
        simp only [Act.put, List.setIfInBounds_toArray, List.set_cons_zero, List.set_cons_succ]
        refine wpN_take (i := 4) (d := some 110) rfl rfl (by kernel_rfl) (by kernel_rfl) (by kernel_rfl) (fun _ _ _ h => h) (sure_value (v := .int .i64 ((i3 : Int))) (by rfl) (fun v1 h1 => by first | rfl | (go_simp; done) | (go_simp; intro h9; exact absurd h9 (by omega)) | (go_simp; assumption))) (Only.refl _ _) ?_
        simp only [Act.put, List.setIfInBounds_toArray, List.set_cons_zero, List.set_cons_succ]
        refine wpN_take (i := 5) (d := some 111) rfl rfl (by kernel_rfl) (by kernel_rfl) (by kernel_rfl) (fun _ _ _ h => h) (sure_value (v := .pointer (some ⟨rb, (i3) * 132, none⟩)) (by rfl) (fun v1 h1 => by first | rfl | (go_simp; done) | (go_simp; intro h9; exact absurd h9 (by omega)) | (go_simp; assumption))) (Only.refl _ _) ?_
        simp only [Act.put, List.setIfInBounds_toArray, List.set_cons_zero, List.set_cons_succ]
        refine wpN_take (i := 6) (d := some 112) rfl rfl (by kernel_rfl) (by kernel_rfl) (by kernel_rfl) (fun _ _ _ h => h) (sure_four PB.out.drew (fun hh => NPB.out hh) (by rfl) (fun _ h0 h1 h2 h3 => by go_simp)) (Only.refl _ _) ?_
        simp only [Act.put, List.setIfInBounds_toArray, List.set_cons_zero, List.set_cons_succ]
        refine wpN_call (i := 7) (d := some 113) (T := fun u w1 w' => u = .bool (decide (((t.put k bs).left : Int) = 0)) ∧ AddLeft w9 (fun b => (S b ∨ New w b) ∧ ¬ RowB (some ⟨rb, 0, none⟩) c3 b) rb (i3) cur (t.put k bs) w' ∧ Only (fun b => b = rb) w9 w') (fun w1 h1 => (text_add rb (i3) k id cn bs (.slice A0 bs.length c0) cur cs t _ _ w1 (CUR.out.only (Only.undrew h1) (fun h => h)) HIN.out (TXI.out.only (Only.undrew h1) (fun _ _ h => h)) (fun b hb e => hb.2 ⟨hcz, by rw [e]⟩) (by omega) hn64 TOK.out.left (HV.out.noth (Only.undrew h1)) (fun b hb e => (HSV.out b hb).2 (e ▸ NRB.out.2)) hm7).mono (fun r w' h => by obtain ⟨e1, e2, e3⟩ := h; exact ⟨_, e1, ⟨rfl, e2.up (Only.undrew h1).size, ((Only.undrew h1).mono (G := fun b => b = rb) (fun j hj _ => hj.elim)).trans e3 (fun j hj _ => hj)⟩, (h1.mono (G := fun b => b = rb) (fun j hj _ => hj.elim)).trans e3 (fun j hj _ => hj)⟩)) (by kernel_rfl) rfl rfl (by rfl) (fun _ => by go_simp) ?_
        rintro u w5 w6 h5 ⟨rfl, hleft, honly⟩ h6
        simp only [Act.put, List.setIfInBounds_toArray, List.set_cons_zero, List.set_cons_succ]
        refine wpN_take (i := 8) (d := some 114) rfl rfl (by kernel_rfl) (by kernel_rfl) (by kernel_rfl) (fun _ _ _ h => h) (sure_value (v := .bool (!decide (((t.put k bs).left : Int) = 0))) (by rfl) (fun v1 h1 => by first | rfl | (go_simp; done) | (go_simp; intro h9; exact absurd h9 (by omega)) | (go_simp; assumption))) h6 ?_
        simp only [Act.put, List.setIfInBounds_toArray, List.set_cons_zero, List.set_cons_succ]
        refine wpN_done (by kernel_rfl) (fun w7 ho => ?_) _
        obtain ⟨css4, hst4⟩ := (ST.out).put hil rfl hcz CUR.out hleft honly
        obtain ⟨T4, hT4⟩ : ∃ T4, ((⟨T3, l2⟩ : Jn)).T.set (i3) (t.put k bs) = T4 := ⟨_, rfl⟩
        simp only [hT4] at hst4
        have hp4 := HPUT.out
        simp only [hT4] at hp4
        replace HPUT := Lib.hid hp4
        have hil4 : (i3) < T4.length := by rw [← hT4, List.length_set]; exact hil
        have hle4 : T4.length ≤ 17 := by rw [← hT4, List.length_set]; exact hi17
        have HER := Lib.hid (show T4.eraseIdx (i3) = ((⟨T3, l2⟩ : Jn)).T.eraseIdx (i3) by rw [← hT4, List.eraseIdx_set_eq])
        have HAT := Lib.hid (show T4[i3]? = some (t.put k bs) by rw [← hT4]; exact List.getElem?_set_self hil)
        clear hT4 hp4
        replace ST := Lib.hid (hst4.noth ho)
        replace PB := Lib.hid ((PB.out.only honly NPB.out).only ho (fun h => h))
        clear h5 hleft honly h6 ho hst4 m0 STB CUR TXI HIN
        by_cases hdone : (t.put k bs).left = 0
        · have hd : decide (((t.put k bs).left : Int) = 0) = true := by simpa using hdone
          rw [hd]
          have HR := Lib.hid (HPUT.out.trans (if_pos hdone))
          obtain ⟨rb3, cur3, cs3, hA3, hcz3, hcur3, htx3, hin3⟩ := ST.out.blk HAT.out
          injection hA3 with hA3
          injection hA3 with hA3
          subst hA3
          have hlsn : ((t.put k bs).pcs.map (·.getD [])).length = cn := by rw [List.length_map, Tx.put_len, htl]
          have hsm := Tx.put_small (k := k) TOK.out.small hm7
          have hsz : ((t.put k bs).pcs.map (·.getD [])).flatten.length ≤ 1000000 := by
            have h1 := flat_small (ls := (t.put k bs).pcs.map (·.getD [])) (n := 8192) (fun l hl => by
              obtain ⟨x, hx, rfl⟩ := List.mem_map.1 hl
              cases x with
              | none => simp
              | some y => simpa using hsm y hx)
            rw [hlsn] at h1
            have : cn * 8192 ≤ 64 * 8192 := Nat.mul_le_mul_right _ (by omega)
            omega
          have PS := Lib.hid (show PsAt w7 (fun b => (S b ∨ New w b) ∧ ¬ RowB (some ⟨rb, 0, none⟩) c3 b) rb ((i3) * 132 + 68) ((t.put k bs).pcs.map (·.getD [])) from ⟨hcur3.lt, fun j l hj => by
            have hjl : j < cn := by have := (List.getElem?_eq_some_iff.1 hj).1; rw [hlsn] at this; exact this
            obtain ⟨u, hu, hbu⟩ := htx3.part j (by omega)
            have hc := (hcur3.cell _).trans (hin3 _ _ hu)
            rw [← Nat.add_assoc] at hc
            have hl : l = (t.put k bs).piece j := by
              unfold Tx.piece
              rw [List.getElem?_map] at hj
              cases hx : (t.put k bs).pcs[j]? with
              | none => rw [hx] at hj; cases hj
              | some x =>
                rw [hx] at hj
                injection hj with hj
                rw [← hj]
                cases x <;> rfl
            rw [hl]
            exact ⟨u, hc, hbu⟩⟩)
          have CONC := Lib.hid (fun W => concat_run rb ((i3) * 132 + 68) 64 (fun b => (S b ∨ New w b) ∧ ¬ RowB (some ⟨rb, 0, none⟩) c3 b) ((t.put k bs).pcs.map (·.getD [])) (by omega) hsz W)
          have HLS := Lib.hid hlsn
          have HWH := Lib.hid (show ((t.put k bs).pcs.map (·.getD [])).flatten = (t.put k bs).whole from rfl)
          have STB := Lib.hid ST.out.box
          have m0 : _ = some (Value.slice (some ⟨rb, 0, none⟩) T4.length c3) := STB.out.cell 0
          clear hcur3 htx3 hin3 hsz hsm hlsn
          go_wp2_with fail
          refine wp_region_N Noth (by kernel_rfl) ?_
          refine wpN_take (i := 0) (d := some 115) rfl rfl (by kernel_rfl) (by kernel_rfl) (by kernel_rfl) (fun _ _ _ h => h) (sure_value (v := .pointer (some ⟨g, 0, none⟩)) (by rfl) (fun v1 h1 => by first | rfl | (go_simp; done) | (go_simp; intro h9; exact absurd h9 (by omega)) | (go_simp; assumption))) (Only.refl _ _) ?_
          simp only [Act.put, List.setIfInBounds_toArray, List.set_cons_zero, List.set_cons_succ]
          refine wpN_take (i := 1) (d := some 116) rfl rfl (by kernel_rfl) (by kernel_rfl) (by kernel_rfl) (fun _ _ _ h => h) (sure_value (v := .pointer (some ⟨g, 0, none⟩)) (by rfl) (fun v1 h1 => by first | rfl | (go_simp; done) | (go_simp; intro h9; exact absurd h9 (by omega)) | (go_simp; assumption))) (Only.refl _ _) ?_
          simp only [Act.put, List.setIfInBounds_toArray, List.set_cons_zero, List.set_cons_succ]
          refine wpN_take (i := 2) (d := some 117) rfl rfl (by kernel_rfl) (by kernel_rfl) (by kernel_rfl) (fun _ _ _ h => h) (sure_value (v := .pointer (some ⟨g, 0, none⟩)) (by rfl) (fun v1 h1 => by first | rfl | (go_simp; done) | (go_simp; intro h9; exact absurd h9 (by omega)) | (go_simp; assumption))) (Only.refl _ _) ?_
          simp only [Act.put, List.setIfInBounds_toArray, List.set_cons_zero, List.set_cons_succ]
          refine wpN_take (i := 3) (d := some 118) rfl rfl (by kernel_rfl) (by kernel_rfl) (by kernel_rfl) (fun _ _ _ h => h) (sure_lit (v := .slice (some ⟨rb, 0, none⟩) T4.length c3) (i := 0) STB.out.drew rfl (fun h => h) (by rfl) (fun _ h => by go_simp)) (Only.refl _ _) ?_
          simp only [Act.put, List.setIfInBounds_toArray, List.set_cons_zero, List.set_cons_succ]
          refine wpN_take (i := 4) (d := some 119) rfl rfl (by kernel_rfl) (by kernel_rfl) (by kernel_rfl) (fun _ _ _ h => h) (sure_value (v := .int .i64 ((i3 : Int))) (by rfl) (fun v1 h1 => by first | rfl | (go_simp; done) | (go_simp; intro h9; exact absurd h9 (by omega)) | (go_simp; assumption))) (Only.refl _ _) ?_
          simp only [Act.put, List.setIfInBounds_toArray, List.set_cons_zero, List.set_cons_succ]
          refine wpN_take (i := 5) (d := some 120) rfl rfl (by kernel_rfl) (by kernel_rfl) (by kernel_rfl) (fun _ _ _ h => h) (sure_value (v := .pointer (some ⟨rb, (i3) * 132, none⟩)) (by rfl) (fun v1 h1 => by go_simp)) (Only.refl _ _) ?_
          simp only [Act.put, List.setIfInBounds_toArray, List.set_cons_zero, List.set_cons_succ]
          refine wpN_take (i := 6) (d := some 121) rfl rfl (by kernel_rfl) (by kernel_rfl) (by kernel_rfl) (fun _ _ _ h => h) (sure_value (v := .pointer (some ⟨rb, (i3) * 132 + 68, none⟩)) (by rfl) (fun v1 h1 => by first | rfl | (go_simp; done) | (go_simp; intro h9; exact absurd h9 (by omega)) | (go_simp; assumption))) (Only.refl _ _) ?_
          simp only [Act.put, List.setIfInBounds_toArray, List.set_cons_zero, List.set_cons_succ]
          refine wpN_take (i := 7) (d := some 122) rfl rfl (by kernel_rfl) (by kernel_rfl) (by kernel_rfl) (fun _ _ _ h => h) (sure_value (v := .pointer (some ⟨w.heap.size, 2, none⟩)) (by rfl) (fun v1 h1 => by first | rfl | (go_simp; done) | (go_simp; intro h9; exact absurd h9 (by omega)) | (go_simp; assumption))) (Only.refl _ _) ?_
          simp only [Act.put, List.setIfInBounds_toArray, List.set_cons_zero, List.set_cons_succ]
          refine wpN_take (i := 8) (d := some 123) rfl rfl (by kernel_rfl) (by kernel_rfl) (by kernel_rfl) (fun _ _ _ h => h) (sure_lit (v := .int .i64 (cn : Int)) (i := 2) PB.out.drew rfl (fun h => h) (by rfl) (fun _ h => by go_simp)) (Only.refl _ _) ?_
          simp only [Act.put, List.setIfInBounds_toArray, List.set_cons_zero, List.set_cons_succ]
          refine wpN_take (i := 9) (d := some 124) rfl rfl (by kernel_rfl) (by kernel_rfl) (by kernel_rfl) (fun _ _ _ h => h) (sure_value (v := .slice (some ⟨rb, (i3) * 132 + 68, none⟩) cn 64) (by rfl) (fun v1 h1 => by first | rfl | (go_simp; done) | (go_simp; intro h9; exact absurd h9 (by omega)) | (go_simp; assumption))) (Only.refl _ _) ?_
          simp only [Act.put, List.setIfInBounds_toArray, List.set_cons_zero, List.set_cons_succ]
          refine wpN_call (i := 10) (d := some 125) (T := fun u w1 w' => BsAt w' (New w7) u ((t.put k bs).pcs.map (·.getD [])).flatten ∧ Only Noth w7 w') (fun w1 h1 => by
            have hcc := CONC.out w1 (PS.out.noth (Only.undrew h1))
            rw [HLS.out] at hcc
            refine hcc.mono (fun r w' h => ?_)
            obtain ⟨⟨u, e1, e2⟩, e3⟩ := h
            exact ⟨u, e1, ⟨e2.mono (fun j hj _ => Nat.le_trans (Only.undrew h1).size hj), Only.undrew (h1.tr e3)⟩, h1.tr e3⟩) (by kernel_rfl) rfl rfl (by rfl) (fun _ => by go_simp) ?_
          rintro u8 w8 w9 h8 ⟨hub, h3⟩ h9
          simp only [Act.put, List.setIfInBounds_toArray, List.set_cons_zero, List.set_cons_succ]
          refine wpN_take (i := 11) (d := some 10) rfl rfl (by kernel_rfl) (by kernel_rfl) (by kernel_rfl) (fun _ _ _ h => h) (sure_value (v := u8) (by rfl) (fun v1 h1 => by first | rfl | (go_simp; done) | (go_simp; intro h9; exact absurd h9 (by omega)) | (go_simp; assumption))) h9 ?_
          simp only [Act.put, List.setIfInBounds_toArray, List.set_cons_zero, List.set_cons_succ]
          refine wpN_done (by kernel_rfl) (fun w10 ho => ?_) _
          have ST8 := Lib.hid (ST.out.noth (h3.tr ho))
          have UB := Lib.hid (hub.noth ho)
          have hz7 := (ST.out).only.size
          have hRW := Lib.hid (fun j (hj : RowB (some ⟨rb, 0, none⟩) c3 j) => show j < w7.heap.size from by obtain ⟨_, _, cu, hcu⟩ := ST.out.row_ne hj; exact hcu.lt)
          have hgW := Lib.hid (show g < w7.heap.size from STB.out.lt)
          have m0 : _ = some (Value.slice (some ⟨rb, 0, none⟩) T4.length c3) := ST8.out.box.cell 0
          clear ho hub h3 STB PS CONC
          go_wp2_with fail
          refine ((ST8.out).del_call hil4).mono ?_
          rintro e w12 ⟨rfl, hbx, hro, hst⟩
          have d0 : _ = some _ := hbx.cell 0
          have d1 := hbx.free 0
          have STF := Lib.hid hst
          have UF := Lib.hid (((UB.out.only hro (fun b hb hr => by have hb : w7.heap.size ≤ b := hb; have := hRW.out b hr; omega)).only ((Only.refl (fun k => k = g) w12).setCell (p := ⟨g, 0, none⟩) (fun _ => rfl) (.slice (some ⟨rb, 0, none⟩) (T4.length - 1) c3)) (fun b hb e => by have hb : w7.heap.size ≤ b := hb; have e : b = g := e; have := hgW.out; omega)).mono (fun b hb _ => show New w b from Nat.le_trans hz7 hb))
          have hjok := jadd_ok HOK.out frm ⟨id, (k : Int), (cn : Int), bs⟩
          rw [HR.out] at hjok
          have JK := Lib.hid hjok
          clear hbx hro hst hjok m0
          go_wp2
          refine bodyPost_ret (v := .tuple #[u8, .bool true, .int .i64 0]) (by simp [results, Tryd.results13, go_sem]) rfl ?_
          rw [HR.out]
          have STG := STF.out
          simp only [HER.out] at STG
          exact ⟨⟨_, rfl, by rw [← HWH.out]; exact UF.out⟩, STG.join JK.out, STG.only⟩
        · have hd : decide (((t.put k bs).left : Int) = 0) = false := by simpa using hdone
          rw [hd]
          have HR := Lib.hid (HPUT.out.trans (if_neg hdone))
          have hjok := jadd_ok HOK.out frm ⟨id, (k : Int), (cn : Int), bs⟩
          rw [HR.out] at hjok
          have JK := Lib.hid hjok
          clear hjok
          go_wp2_with fail
          refine bodyPost_ret (v := .tuple #[.slice none 0 0, .bool false, .int .i64 0]) (by simp [results, Tryd.results13, go_sem]) rfl ?_
          rw [HR.out]
          exact ⟨⟨_, rfl, BsAt.nil _ _⟩, ST.out.join JK.out, ST.out.only⟩
  · have HD := Lib.hid (show J.drop frm id = J from by unfold Jn.drop; rw [if_neg hf])
    have HFT := Lib.hid (show J.fits frm id cn = false from by
      cases hq : J.fits frm id cn with
      | false => rfl
      | true => obtain ⟨t, ht, _⟩ := Jn.fits_iff.1 hq; exact absurd (List.getElem?_eq_some_iff.1 ht).1 hf)
    have hpl : placeOf (J.find frm id) J.T.length = -1 := by unfold placeOf; rw [if_neg hf]
    rw [hpl]
    have HJ2 := Lib.hid HOK.out
    clear hpl
    go_wp2_with fail
    refine wp_region_N Noth (by kernel_rfl) ?_
    refine wpN_take (i := 0) (d := some 27) rfl rfl (by kernel_rfl) (by kernel_rfl) (by kernel_rfl) (fun _ _ _ h => h) (sure_value (v := .int .i64 (-1)) (by rfl) (fun v1 h1 => by first | rfl | (go_simp; done) | (go_simp; intro h9; exact absurd h9 (by omega)) | (go_simp; assumption))) (Only.refl _ _) ?_
    simp only [Act.put, List.setIfInBounds_toArray, List.set_cons_zero, List.set_cons_succ]
    refine wpN_take (i := 1) (d := some 28) rfl rfl (by kernel_rfl) (by kernel_rfl) (by kernel_rfl) (fun _ _ _ h => h) (sure_value (v := .bool false) (by rfl) (fun v1 h1 => by first | rfl | (go_simp; done) | (go_simp; intro h9; exact absurd h9 (by omega)) | (go_simp; assumption))) (Only.refl _ _) ?_
    simp only [Act.put, List.setIfInBounds_toArray, List.set_cons_zero, List.set_cons_succ]
    refine wpN_take (i := 2) (d := some 29) rfl rfl (by kernel_rfl) (by kernel_rfl) (by kernel_rfl) (fun _ _ _ h => h) (sure_value (v := .bool false) (by rfl) (fun v1 h1 => by first | rfl | (go_simp; done) | (go_simp; intro h9; exact absurd h9 (by omega)) | (go_simp; assumption))) (Only.refl _ _) ?_
    simp only [Act.put, List.setIfInBounds_toArray, List.set_cons_zero, List.set_cons_succ]
    refine wpN_take (i := 3) (d := some 30) rfl rfl (by kernel_rfl) (by kernel_rfl) (by kernel_rfl) (fun _ _ _ h => h) (sure_skip (by rfl)) (Only.refl _ _) ?_
    simp only [Act.put, List.setIfInBounds_toArray, List.set_cons_zero, List.set_cons_succ]
    refine wpN_take (i := 4) (d := some 31) rfl rfl (by kernel_rfl) (by kernel_rfl) (by kernel_rfl) (fun _ _ _ h => h) (sure_skip (by rfl)) (Only.refl _ _) ?_
    simp only [Act.put, List.setIfInBounds_toArray, List.set_cons_zero, List.set_cons_succ]
    refine wpN_take (i := 5) (d := some 32) rfl rfl (by kernel_rfl) (by kernel_rfl) (by kernel_rfl) (fun _ _ _ h => h) (sure_skip (by rfl)) (Only.refl _ _) ?_
    simp only [Act.put, List.setIfInBounds_toArray, List.set_cons_zero, List.set_cons_succ]
    refine wpN_take (i := 6) (d := some 33) rfl rfl (by kernel_rfl) (by kernel_rfl) (by kernel_rfl) (fun _ _ _ h => h) (sure_skip (by rfl)) (Only.refl _ _) ?_
    simp only [Act.put, List.setIfInBounds_toArray, List.set_cons_zero, List.set_cons_succ]
    refine wpN_take (i := 7) (d := some 34) rfl rfl (by kernel_rfl) (by kernel_rfl) (by kernel_rfl) (fun _ _ _ h => h) (sure_skip (by rfl)) (Only.refl _ _) ?_
    simp only [Act.put, List.setIfInBounds_toArray, List.set_cons_zero, List.set_cons_succ]
    refine wpN_take (i := 8) (d := some 35) rfl rfl (by kernel_rfl) (by kernel_rfl) (by kernel_rfl) (fun _ _ _ h => h) (sure_skip (by rfl)) (Only.refl _ _) ?_
    simp only [Act.put, List.setIfInBounds_toArray, List.set_cons_zero, List.set_cons_succ]
    refine wpN_take (i := 9) (d := some 36) rfl rfl (by kernel_rfl) (by kernel_rfl) (by kernel_rfl) (fun _ _ _ h => h) (sure_skip (by rfl)) (Only.refl _ _) ?_
    simp only [Act.put, List.setIfInBounds_toArray, List.set_cons_zero, List.set_cons_succ]
    refine wpN_take (i := 10) (d := some 37) rfl rfl (by kernel_rfl) (by kernel_rfl) (by kernel_rfl) (fun _ _ _ h => h) (sure_skip (by rfl)) (Only.refl _ _) ?_
    simp only [Act.put, List.setIfInBounds_toArray, List.set_cons_zero, List.set_cons_succ]
    refine wpN_take (i := 11) (d := some 38) rfl rfl (by kernel_rfl) (by kernel_rfl) (by kernel_rfl) (fun _ _ _ h => h) (sure_skip (by rfl)) (Only.refl _ _) ?_
    simp only [Act.put, List.setIfInBounds_toArray, List.set_cons_zero, List.set_cons_succ]
    refine wpN_take (i := 12) (d := some 39) rfl rfl (by kernel_rfl) (by kernel_rfl) (by kernel_rfl) (fun _ _ _ h => h) (sure_skip (by rfl)) (Only.refl _ _) ?_
    simp only [Act.put, List.setIfInBounds_toArray, List.set_cons_zero, List.set_cons_succ]
    refine wpN_take (i := 13) (d := some 40) rfl rfl (by kernel_rfl) (by kernel_rfl) (by kernel_rfl) (fun _ _ _ h => h) (sure_skip (by rfl)) (Only.refl _ _) ?_
    simp only [Act.put, List.setIfInBounds_toArray, List.set_cons_zero, List.set_cons_succ]
    refine wpN_take (i := 14) (d := some 41) rfl rfl (by kernel_rfl) (by kernel_rfl) (by kernel_rfl) (fun _ _ _ h => h) (sure_value (v := .bool false) (by rfl) (fun v1 h1 => by first | rfl | (go_simp; done) | (go_simp; intro h9; exact absurd h9 (by omega)) | (go_simp; assumption))) (Only.refl _ _) ?_
    simp only [Act.put, List.setIfInBounds_toArray, List.set_cons_zero, List.set_cons_succ]
    refine wpN_done (by kernel_rfl) (fun w3 ho => ?_) _
    replace ho := Only.undrew ho
    replace PB := Lib.hid (PB.out.only ho (fun h => h))
    replace ST := Lib.hid (ST.out.noth ho)
    replace HV := Lib.hid (HV.out.noth ho)
    clear ho
    have hj2 := HJ2.out
    have hjl : (J).T.length ≤ 16 := hj2.len
    try simp only at hjl
    have STB := Lib.hid ST.out.box
    obtain ⟨hRT, hRB⟩ := ST.out.row.tightB
    have RT := Lib.hid hRT
    have NRG := Lib.hid (show ∀ b, RowB A c b → b ≠ g ∧ w.heap.size ≠ b from fun b hb => ⟨(ST.out.row_ne hb).1, fun e => by
      obtain ⟨_, _, cu, hcu⟩ := ST.out.row_ne hb
      exact PB.out.ne_ hcu (by decide) e⟩)
    have hRR : ∀ b, RowB A c b → (R b ∨ New w b) := fun b hb => (ST.out.row_ne hb).2.1
    have LN := Lib.hid (show (newCells frm id cn).length = 132 from newCells_len _ _ _)
    have ONE := Lib.hid (show ∀ u ∈ newCells frm id cn, u.oneCell' = true from (TxIs.new w (fun _ => True) frm id cn).one)
    have HGZ := Lib.hid hgw
    obtain ⟨i0, hti, hz0, hz1, hz2⟩ := info_parts txinfo
    clear hj2 hRT hRB
    go_wp2_with fail
    refine wp_region_N (fun b => b = g ∨ RowB A c b) (by kernel_rfl) ?_
    refine wpN_take (i := 0) (d := some 62) rfl rfl (by kernel_rfl) (by kernel_rfl) (by kernel_rfl) (fun _ _ _ h => h) (sure_value (v := .pointer (some ⟨g, 0, none⟩)) (by rfl) (fun v1 h1 => by first | rfl | (go_simp; done) | (go_simp; intro h9; exact absurd h9 (by omega)) | (go_simp; assumption))) (Only.refl _ _) ?_
    simp only [Act.put, List.setIfInBounds_toArray, List.set_cons_zero, List.set_cons_succ]
    refine wpN_take (i := 1) (d := some 63) rfl rfl (by kernel_rfl) (by kernel_rfl) (by kernel_rfl) (fun _ _ _ h => h) (sure_value (v := .pointer (some ⟨g, 0, none⟩)) (by rfl) (fun v1 h1 => by first | rfl | (go_simp; done) | (go_simp; intro h9; exact absurd h9 (by omega)) | (go_simp; assumption))) (Only.refl _ _) ?_
    simp only [Act.put, List.setIfInBounds_toArray, List.set_cons_zero, List.set_cons_succ]
    refine wpN_take (i := 2) (d := some 64) rfl rfl (by kernel_rfl) (by kernel_rfl) (by kernel_rfl) (fun _ _ _ h => h) (sure_value (v := .pointer (some ⟨g, 0, none⟩)) (by rfl) (fun v1 h1 => by first | rfl | (go_simp; done) | (go_simp; intro h9; exact absurd h9 (by omega)) | (go_simp; assumption))) (Only.refl _ _) ?_
    simp only [Act.put, List.setIfInBounds_toArray, List.set_cons_zero, List.set_cons_succ]
    refine wpN_take (i := 3) (d := some 65) rfl rfl (by kernel_rfl) (by kernel_rfl) (by kernel_rfl) (fun _ _ _ h => h) (sure_value (v := .pointer (some ⟨g, 0, none⟩)) (by rfl) (fun v1 h1 => by first | rfl | (go_simp; done) | (go_simp; intro h9; exact absurd h9 (by omega)) | (go_simp; assumption))) (Only.refl _ _) ?_
    simp only [Act.put, List.setIfInBounds_toArray, List.set_cons_zero, List.set_cons_succ]
    refine wpN_take (i := 5) (d := some 67) rfl rfl (by kernel_rfl) (by kernel_rfl) (by kernel_rfl) (fun _ _ _ h => h) (sure_value (v := .int .u16 frm) (by rfl) (fun v1 h1 => by first | rfl | (go_simp; done) | (go_simp; intro h9; exact absurd h9 (by omega)) | (go_simp; assumption))) (Only.refl _ _) ?_
    simp only [Act.put, List.setIfInBounds_toArray, List.set_cons_zero, List.set_cons_succ]
    refine wpN_take (i := 6) (d := some 68) rfl rfl (by kernel_rfl) (by kernel_rfl) (by kernel_rfl) (fun _ _ _ h => h) (sure_value (v := .pointer (some ⟨w.heap.size, 0, none⟩)) (by rfl) (fun v1 h1 => by first | rfl | (go_simp; done) | (go_simp; intro h9; exact absurd h9 (by omega)) | (go_simp; assumption))) (Only.refl _ _) ?_
    simp only [Act.put, List.setIfInBounds_toArray, List.set_cons_zero, List.set_cons_succ]
    refine wpN_take (i := 7) (d := some 69) rfl rfl (by kernel_rfl) (by kernel_rfl) (by kernel_rfl) (fun _ _ _ h => h) (sure_lit (v := .int .i64 id) (i := 0) PB.out.drew rfl (fun hh => hh.elim (fun e => absurd e (by have := HGZ.out; omega)) (fun hr => (NRG.out _ hr).2 rfl)) (by rfl) (fun _ h => by go_simp)) (Only.refl _ _) ?_
    simp only [Act.put, List.setIfInBounds_toArray, List.set_cons_zero, List.set_cons_succ]
    refine wpN_take (i := 8) (d := some 70) rfl rfl (by kernel_rfl) (by kernel_rfl) (by kernel_rfl) (fun _ _ _ h => h) (sure_value (v := .pointer (some ⟨w.heap.size, 2, none⟩)) (by rfl) (fun v1 h1 => by first | rfl | (go_simp; done) | (go_simp; intro h9; exact absurd h9 (by omega)) | (go_simp; assumption))) (Only.refl _ _) ?_
    simp only [Act.put, List.setIfInBounds_toArray, List.set_cons_zero, List.set_cons_succ]
    refine wpN_take (i := 9) (d := some 71) rfl rfl (by kernel_rfl) (by kernel_rfl) (by kernel_rfl) (fun _ _ _ h => h) (sure_lit (v := .int .i64 (cn : Int)) (i := 2) PB.out.drew rfl (fun hh => hh.elim (fun e => absurd e (by have := HGZ.out; omega)) (fun hr => (NRG.out _ hr).2 rfl)) (by rfl) (fun _ h => by go_simp)) (Only.refl _ _) ?_
    simp only [Act.put, List.setIfInBounds_toArray, List.set_cons_zero, List.set_cons_succ]
    refine wpN_take (i := 10) (d := some 72) rfl rfl (by kernel_rfl) (by kernel_rfl) (by kernel_rfl) (fun _ _ _ h => h) (sure_value (v := .pointer (some ⟨w.heap.size, 2, none⟩)) (by rfl) (fun v1 h1 => by first | rfl | (go_simp; done) | (go_simp; intro h9; exact absurd h9 (by omega)) | (go_simp; assumption))) (Only.refl _ _) ?_
    simp only [Act.put, List.setIfInBounds_toArray, List.set_cons_zero, List.set_cons_succ]
    refine wpN_take (i := 11) (d := some 73) rfl rfl (by kernel_rfl) (by kernel_rfl) (by kernel_rfl) (fun _ _ _ h => h) (sure_lit (v := .int .i64 (cn : Int)) (i := 2) PB.out.drew rfl (fun hh => hh.elim (fun e => absurd e (by have := HGZ.out; omega)) (fun hr => (NRG.out _ hr).2 rfl)) (by rfl) (fun _ h => by go_simp)) (Only.refl _ _) ?_
    simp only [Act.put, List.setIfInBounds_toArray, List.set_cons_zero, List.set_cons_succ]
    refine wpN_take (i := 12) (d := some 74) rfl rfl (by kernel_rfl) (by kernel_rfl) (by kernel_rfl) (fun _ _ _ h => h) (sure_value (v := .agg (newCells frm id cn).toArray) (by rfl) (fun _ _ => by first | rfl | kernel_rfl)) (Only.refl _ _) ?_
    simp only [Act.put, List.setIfInBounds_toArray, List.set_cons_zero, List.set_cons_succ]
    refine wpN_run2 (i := 4) (j := 13) (d := some 66) (d' := some 75) (fun v _ => v = .slice A (J).T.length c) (fun v W => ∃ p, v = .slice (some ⟨p, 0, none⟩) 1 1 ∧ Hld W p 79 (newCells frm id cn).toArray) (fun _ _ _ h _ => h) (fun _ _ _ h ho => by obtain ⟨p, h1, h2⟩ := h; exact ⟨p, h1, h2.only ho (fun h => h)⟩) (by kernel_rfl) (by kernel_rfl) (by kernel_rfl) (by decide) rfl rfl rfl rfl rfl rfl (by simp) (Only.refl _ _) (fun u w4 h4 => ?_) (fun u w4 h4 => ?_) ?_
    · have hc := (STB.out.only (Only.undrew h4) (fun h => h)).cell 0
      exact ⟨_, w4, by go_simp, by go_simp, rfl, Only.refl _ _⟩
    · exact ⟨.slice (some ⟨w4.heap.size, 0, none⟩) 1 1, w4.alloc (.cells (newCells frm id cn).toArray 79), buildSlice_op rfl rfl (build_slice_text frm id cn w4), buildSlice_op rfl rfl (build_slice_text frm id cn w4), ⟨_, rfl, Hld.new _ _ _⟩, (Only.refl _ _).alloc _⟩
    rintro v u w4 rfl ⟨p, rfl, hp⟩ h4
    simp only [Act.put, List.setIfInBounds_toArray, List.set_cons_zero, List.set_cons_succ]
    have O4 := Lib.hid (Only.undrew h4)
    have HP := Lib.hid hp
    have OF4 := Lib.hid (show Only (fun b => b = g ∨ RowB A c b) w3.drew w4 from h4.mono (fun j hj _ => hj.elim))
    clear h4 hp
    refine wpN_run1 (i := 14) (d := some 76) (fun v W2 => ∃ A' c' W', v = .slice A' ((J).T.length + 1) c' ∧ Only Noth w3 W' ∧ Row W2 (Plus (RowB A c) W' W2) 79 132 (.slice A' ((J).T.length + 1) c') ((J).T.length + 1) ((css).flatten ++ newCells frm id cn) ∧ Only (RowB A c) W' W2) (by kernel_rfl) rfl rfl (by rfl) (fun w5 h5 => ?_) ?_
    · obtain ⟨v', w6, hr, hrow, ho, _⟩ := run_append_row (P := Tryd.prog) w5 72 72 79 i0 (.agg (newCells 0 0 0).toArray) 132 1632 Tryd.underlying72 hti hz0 hz1 hz2 (newCells_len 0 0 0) (RowB A c) _ _ (J).T.length _ ((RT.out.only O4.out (fun _ _ h => h)).only h5 (fun _ _ h => h)) (some ⟨p, 0, none⟩) 1 1 (newCells frm id cn) ((HP.out.only h5 (fun h => h)).src132 LN.out) ONE.out (by simp only [maxLen]; omega) (by omega)
      obtain ⟨A', c', rfl⟩ := hrow.shape
      exact ⟨_, w6, app_op rfl rfl rfl hr, ⟨A', c', w5, rfl, O4.out.tr h5, hrow, ho⟩, (OF4.out.tr h5).trans ho (fun j hj _ => .inr hj)⟩
    rintro v w6 ⟨A3, c3, w5, rfl, h5, hrow, ho⟩ h6
    simp only [Act.put, List.setIfInBounds_toArray, List.set_cons_zero, List.set_cons_succ]
    have HRW := Lib.hid hrow
    have HRO := Lib.hid ho
    have H5 := Lib.hid h5
    clear hrow ho h5
    refine wpN_take (i := 15) (d := some 77) rfl rfl (by kernel_rfl) (by kernel_rfl) (by kernel_rfl) (fun _ _ _ h => h) (sure_value (v := .pointer (some ⟨g, 0, none⟩)) (by rfl) (fun v1 h1 => by first | rfl | (go_simp; done) | (go_simp; intro h9; exact absurd h9 (by omega)) | (go_simp; assumption))) h6 ?_
    simp only [Act.put, List.setIfInBounds_toArray, List.set_cons_zero, List.set_cons_succ]
    refine wpN_take (i := 16) (d := some 78) rfl rfl (by kernel_rfl) (by kernel_rfl) (by kernel_rfl) (fun _ _ _ h => h) (sure_value (v := .pointer (some ⟨g, 0, none⟩)) (by rfl) (fun v1 h1 => by first | rfl | (go_simp; done) | (go_simp; intro h9; exact absurd h9 (by omega)) | (go_simp; assumption))) h6 ?_
    simp only [Act.put, List.setIfInBounds_toArray, List.set_cons_zero, List.set_cons_succ]
    refine wpN_cell (i := 17) (off := 0) (g := g) (v := .slice A3 ((J).T.length + 1) c3) (by kernel_rfl) rfl (by rfl) rfl rfl rfl rfl ((STB.out.only H5.out (fun h => h)).only HRO.out (fun hr => (NRG.out _ hr).1 rfl)) rfl (fun w1 h1 h2 => by go_simp) h6 (fun _ => .inl rfl) ?_
    intro w7 w8 ho7 hg8 ho8 hS8
    refine wpN_done (by kernel_rfl) (fun w9 ho9 => ?_) _
    have hb9 : Hld w9 g 74 #[.slice A3 ((J).T.length + 1) c3, .int .i64 (J).lost] := by
      have := hg8.only ho9 (fun h => h)
      simpa using this
    have h69 : Only (fun k => k = g) w6 w9 := ((ho7.mono (fun j hj _ => hj.elim)).trans ho8 (fun j hj _ => hj)).trans ho9 (fun j hj _ => hj.elim)
    have hrow9 := ST.out.snoc (t := ⟨frm, id, List.replicate cn none⟩) H5.out HRW.out HRO.out (fun V => TxIs.new V _ frm id cn) hb9 h69
    have h59 : Only (fun b => b = g ∨ RowB A c b) w3 w9 := ((H5.out.mono (fun j hj _ => hj.elim)).trans HRO.out (fun j hj _ => .inr hj)).trans h69 (fun j hj _ => .inl hj)
    replace ST := Lib.hid hrow9
    replace PB := Lib.hid (PB.out.only h59 (fun hh => hh.elim (fun e => absurd e (by have := HGZ.out; omega)) (fun hr => (NRG.out _ hr).2 rfl)))
    replace HV := Lib.hid (HV.out.only h59 (fun b hb hh => hh.elim (fun e => (HSV.out b hb).1 e) (fun hr => (HSV.out b hb).2 (hRR b hr))))
    clear ho7 hg8 ho8 hS8 ho9 hb9 h69 hrow9 h59 h6 HRW HRO H5 O4 HP OF4 STB RT
    obtain ⟨T3, hT3⟩ : ∃ T3, (J).T ++ [(⟨frm, id, List.replicate cn none⟩ : Tx)] = T3 := ⟨_, rfl⟩
    have hl3 : T3.length = (J).T.length + 1 := by rw [← hT3]; simp
    obtain ⟨css3, hcss3⟩ : ∃ css3, (css) ++ [newCells frm id cn] = css3 := ⟨_, rfl⟩
    have hst3 := ST.out
    simp only [hT3, hcss3] at hst3
    replace ST := Lib.hid hst3
    have HT3 := Lib.hid hT3
    have hbx := ST.out.box
    try simp only at hbx
    rw [← hl3]
    have m0 : _ = some (Value.slice A3 T3.length c3) := hbx.cell 0
    have m1 : _ = some (Value.int .i64 (J).lost) := hbx.cell 1
    clear hst3 hcss3 hT3 hbx NRG hz0 hz1 hz2 hti hRR
    have hz9 : ((J).lost : Int) + 1 ≤ 9223372036854775807 := by first | omega | (simp only; omega)
    have HL3 := Lib.hid hl3
    have hl3a : T3.length ≤ 17 := by omega
    have hl3b : 1 ≤ T3.length := by omega
    clear hl3
    by_cases hbig : (16 : Int) < T3.length
    · go_wp2_with fail
      have h0 := (ST.out).del_call (i := 0) (by first | omega | (simp only; omega))
      simp only [Int.natCast_zero, Int.zero_add] at h0
      refine h0.mono ?_
      rintro e w12 ⟨rfl, hbx, hro, hst⟩
      have d0 : _ = some _ := hbx.cell 0
      have d1 := hbx.free 0
      have d2 : _ = some _ := hbx.cell 1
      have d3 := hbx.free 1
      have STF := Lib.hid hst.lose
      have PB12 := Lib.hid (((PB.out.only hro (fun hr => by obtain ⟨_, _, cu, hcu⟩ := ST.out.row_ne hr; exact PB.out.ne_ hcu (by decide) rfl)).far (p := ⟨g, 0, none⟩) (by have := HGZ.out; show w.heap.size ≠ g; omega) (.slice A3 (T3.length - 1) c3)).far (p := ⟨g, 1, none⟩) (by have := HGZ.out; show w.heap.size ≠ g; omega) (.int .i64 (((J).lost : Int) + 1)))
      have HV12 := Lib.hid (((HV.out.only hro (fun b hb hr => (HSV.out b hb).2 (ST.out.row_ne hr).2.1)).only ((Only.refl (fun k => k = g) w12).setCell (p := ⟨g, 0, none⟩) (fun _ => rfl) (.slice A3 (T3.length - 1) c3)) (fun b hb e => (HSV.out b hb).1 e)).only ((Only.refl (fun k => k = g) (w12.setCell ⟨g, 0, none⟩ (.slice A3 (T3.length - 1) c3))).setCell (p := ⟨g, 1, none⟩) (fun _ => rfl) (.int .i64 (((J).lost : Int) + 1))) (fun b hb e => (HSV.out b hb).1 e))
      clear hbx hro hst m0 m1 h0
      go_wp2_with fail
      obtain ⟨W13, hW13⟩ : ∃ W13, (w12.setCell ⟨g, 0, none⟩ (.slice A3 (T3.length - 1) c3)).setCell ⟨g, 1, none⟩ (.int .i64 (((J).lost : Int) + 1)) = W13 := ⟨_, rfl⟩
      rw [hW13] at ⊢
      have st13 := STF.out
      have pb13 := PB12.out
      have hv13 := HV12.out
      simp only [hW13] at st13 pb13 hv13
      obtain ⟨T5, hT5⟩ : ∃ T5, T3.eraseIdx 0 = T5 := ⟨_, rfl⟩
      have HL5 := Lib.hid (show T5.length = T3.length - 1 by rw [← hT5, List.length_eraseIdx_of_lt (by omega)])
      simp only [hT5] at st13
      replace ST := Lib.hid st13
      replace PB := Lib.hid pb13
      replace HV := Lib.hid hv13
      obtain ⟨i3, hi3⟩ : ∃ i3 : Nat, ((T3.length - 1 : Nat) : Int) - 1 = (i3 : Int) := ⟨T3.length - 1 - 1, by omega⟩
      rw [hi3]
      have HO := Lib.hid (show J.open_ frm id cn = (⟨T5, (J).lost + 1⟩, i3) from by
        have hn : (J.drop frm id).new frm id cn = ⟨T5, (J).lost + 1⟩ := by
          rw [HD.out]
          unfold Jn.new
          rw [if_pos (by have := HL3.out; first | omega | (simp only; omega))]
          simp only [HT3.out, hT5]
        unfold Jn.open_
        rw [if_neg (by rw [HFT.out]; decide), hn]
        simp only
        congr 1
        have := HL5.out
        omega)
      clear st13 pb13 hv13 STF PB12 HV12 hW13 hT5 d0 d1 d2 d3 HT3 hi3 hz9
      obtain ⟨hJok, t, ht, htl, htf, hti⟩ := OPOK.out
      rw [HO.out] at hJok ht
      have JOK := Lib.hid hJok
      have HT := Lib.hid ht
      have hil := (List.getElem?_eq_some_iff.1 ht).1
      have hi16 := hJok.len
      simp only at hil hi16
      have hi17 : ((⟨T5, (J).lost + 1⟩ : Jn)).T.length ≤ 17 := Nat.le_trans hi16 (by omega)
      obtain ⟨rb2, cur, cs, hA, hcz, hcur, htx, hin⟩ := ST.out.blk ht
      subst hA
      obtain ⟨rb, rfl⟩ : ∃ x, x = rb2 := ⟨_, rfl⟩
      have htok := hJok.all t (List.mem_of_getElem? ht)
      have TOK := Lib.hid htok
      have CUR := Lib.hid hcur
      have TXI := Lib.hid htx
      have HIN := Lib.hid hin
      have hn64 : t.pcs.length ≤ 64 := htok.n2
      have NRB := Lib.hid (show rb ≠ g ∧ (R rb ∨ New w rb) from ⟨(ST.out.row_ne ⟨hcz, rfl⟩).1, (ST.out.row_ne ⟨hcz, rfl⟩).2.1⟩)
      have NPB := Lib.hid (show w.heap.size ≠ rb from PB.out.ne_ hcur (by decide))
      have STB := Lib.hid ST.out.box
      have m0 : _ = some (Value.slice (some ⟨rb, 0, none⟩) ((⟨T5, (J).lost + 1⟩ : Jn)).T.length c3) := STB.out.cell 0
      have HPUT := Lib.hid (show jadd J frm ⟨id, (k : Int), (cn : Int), bs⟩ = if (t.put k bs).left = 0 then (⟨((⟨T5, (J).lost + 1⟩ : Jn)).T.eraseIdx (i3), ((⟨T5, (J).lost + 1⟩ : Jn)).lost⟩, some (t.put k bs).whole, 0) else (⟨((⟨T5, (J).lost + 1⟩ : Jn)).T.set (i3) (t.put k bs), ((⟨T5, (J).lost + 1⟩ : Jn)).lost⟩, none, 0) by
        rw [HJ.out, HO.out]
        unfold Jn.at_
        simp only
        rw [ht]
        simp only [Option.getD_some]
        split <;> rfl)
      have hib : (i3) ≤ 100 := by omega
      clear hJok ht hcur htx hin htok
      refine wp_region_N (fun b => b = rb) (by kernel_rfl) ?_
      refine wpN_take (i := 0) (d := some 106) rfl rfl (by kernel_rfl) (by kernel_rfl) (by kernel_rfl) (fun _ _ _ h => h) (sure_value (v := .pointer (some ⟨g, 0, none⟩)) (by rfl) (fun v1 h1 => by first | rfl | (go_simp; done) | (go_simp; intro h9; exact absurd h9 (by omega)) | (go_simp; assumption))) (Only.refl _ _) ?_
      simp only [Act.put, List.setIfInBounds_toArray, List.set_cons_zero, List.set_cons_succ]
      refine wpN_take (i := 1) (d := some 107) rfl rfl (by kernel_rfl) (by kernel_rfl) (by kernel_rfl) (fun _ _ _ h => h) (sure_value (v := .pointer (some ⟨g, 0, none⟩)) (by rfl) (fun v1 h1 => by first | rfl | (go_simp; done) | (go_simp; intro h9; exact absurd h9 (by omega)) | (go_simp; assumption))) (Only.refl _ _) ?_
      simp only [Act.put, List.setIfInBounds_toArray, List.set_cons_zero, List.set_cons_succ]
      refine wpN_take (i := 2) (d := some 108) rfl rfl (by kernel_rfl) (by kernel_rfl) (by kernel_rfl) (fun _ _ _ h => h) (sure_value (v := .pointer (some ⟨g, 0, none⟩)) (by rfl) (fun v1 h1 => by first | rfl | (go_simp; done) | (go_simp; intro h9; exact absurd h9 (by omega)) | (go_simp; assumption))) (Only.refl _ _) ?_
      simp only [Act.put, List.setIfInBounds_toArray, List.set_cons_zero, List.set_cons_succ]
      refine wpN_take (i := 3) (d := some 109) rfl rfl (by kernel_rfl) (by kernel_rfl) (by kernel_rfl) (fun _ _ _ h => h) (sure_lit (v := .slice (some ⟨rb, 0, none⟩) ((⟨T5, (J).lost + 1⟩ : Jn)).T.length c3) (i := 0) STB.out.drew rfl (fun hh => NRB.out.1 hh.symm) (by rfl) (fun _ h => by go_simp)) (Only.refl _ _) ?_
      simp only [Act.put, List.setIfInBounds_toArray, List.set_cons_zero, List.set_cons_succ]
      refine wpN_take (i := 4) (d := some 110) rfl rfl (by kernel_rfl) (by kernel_rfl) (by kernel_rfl) (fun _ _ _ h => h) (sure_value (v := .int .i64 ((i3 : Int))) (by rfl) (fun v1 h1 => by first | rfl | (go_simp; done) | (go_simp; intro h9; exact absurd h9 (by omega)) | (go_simp; assumption))) (Only.refl _ _) ?_
      simp only [Act.put, List.setIfInBounds_toArray, List.set_cons_zero, List.set_cons_succ]
      refine wpN_take (i := 5) (d := some 111) rfl rfl (by kernel_rfl) (by kernel_rfl) (by kernel_rfl) (fun _ _ _ h => h) (sure_value (v := .pointer (some ⟨rb, (i3) * 132, none⟩)) (by rfl) (fun v1 h1 => by first | rfl | (go_simp; done) | (go_simp; intro h9; exact absurd h9 (by omega)) | (go_simp; assumption))) (Only.refl _ _) ?_
      simp only [Act.put, List.setIfInBounds_toArray, List.set_cons_zero, List.set_cons_succ]
      refine wpN_take (i := 6) (d := some 112) rfl rfl (by kernel_rfl) (by kernel_rfl) (by kernel_rfl) (fun _ _ _ h => h) (sure_four PB.out.drew (fun hh => NPB.out hh) (by rfl) (fun _ h0 h1 h2 h3 => by go_simp)) (Only.refl _ _) ?_
      simp only [Act.put, List.setIfInBounds_toArray, List.set_cons_zero, List.set_cons_succ]
      refine wpN_call (i := 7) (d := some 113) (T := fun u w1 w' => u = .bool (decide (((t.put k bs).left : Int) = 0)) ∧ AddLeft W13 (fun b => (S b ∨ New w b) ∧ ¬ RowB (some ⟨rb, 0, none⟩) c3 b) rb (i3) cur (t.put k bs) w' ∧ Only (fun b => b = rb) W13 w') (fun w1 h1 => (text_add rb (i3) k id cn bs (.slice A0 bs.length c0) cur cs t _ _ w1 (CUR.out.only (Only.undrew h1) (fun h => h)) HIN.out (TXI.out.only (Only.undrew h1) (fun _ _ h => h)) (fun b hb e => hb.2 ⟨hcz, by rw [e]⟩) (by omega) hn64 TOK.out.left (HV.out.noth (Only.undrew h1)) (fun b hb e => (HSV.out b hb).2 (e ▸ NRB.out.2)) hm7).mono (fun r w' h => by obtain ⟨e1, e2, e3⟩ := h; exact ⟨_, e1, ⟨rfl, e2.up (Only.undrew h1).size, ((Only.undrew h1).mono (G := fun b => b = rb) (fun j hj _ => hj.elim)).trans e3 (fun j hj _ => hj)⟩, (h1.mono (G := fun b => b = rb) (fun j hj _ => hj.elim)).trans e3 (fun j hj _ => hj)⟩)) (by kernel_rfl) rfl rfl (by rfl) (fun _ => by go_simp) ?_
      rintro u w5 w6 h5 ⟨rfl, hleft, honly⟩ h6
      simp only [Act.put, List.setIfInBounds_toArray, List.set_cons_zero, List.set_cons_succ]
      refine wpN_take (i := 8) (d := some 114) rfl rfl (by kernel_rfl) (by kernel_rfl) (by kernel_rfl) (fun _ _ _ h => h) (sure_value (v := .bool (!decide (((t.put k bs).left : Int) = 0))) (by rfl) (fun v1 h1 => by first | rfl | (go_simp; done) | (go_simp; intro h9; exact absurd h9 (by omega)) | (go_simp; assumption))) h6 ?_
      simp only [Act.put, List.setIfInBounds_toArray, List.set_cons_zero, List.set_cons_succ]
      refine wpN_done (by kernel_rfl) (fun w7 ho => ?_) _
      obtain ⟨css4, hst4⟩ := (ST.out).put hil rfl hcz CUR.out hleft honly
      obtain ⟨T4, hT4⟩ : ∃ T4, ((⟨T5, (J).lost + 1⟩ : Jn)).T.set (i3) (t.put k bs) = T4 := ⟨_, rfl⟩
      simp only [hT4] at hst4
      have hp4 := HPUT.out
      simp only [hT4] at hp4
      replace HPUT := Lib.hid hp4
      have hil4 : (i3) < T4.length := by rw [← hT4, List.length_set]; exact hil
      have hle4 : T4.length ≤ 17 := by rw [← hT4, List.length_set]; exact hi17
      have HER := Lib.hid (show T4.eraseIdx (i3) = ((⟨T5, (J).lost + 1⟩ : Jn)).T.eraseIdx (i3) by rw [← hT4, List.eraseIdx_set_eq])
      have HAT := Lib.hid (show T4[i3]? = some (t.put k bs) by rw [← hT4]; exact List.getElem?_set_self hil)
      clear hT4 hp4
      replace ST := Lib.hid (hst4.noth ho)
      replace PB := Lib.hid ((PB.out.only honly NPB.out).only ho (fun h => h))
      clear h5 hleft honly h6 ho hst4 m0 STB CUR TXI HIN
      by_cases hdone : (t.put k bs).left = 0
      · have hd : decide (((t.put k bs).left : Int) = 0) = true := by simpa using hdone
        rw [hd]
        have HR := Lib.hid (HPUT.out.trans (if_pos hdone))
        obtain ⟨rb3, cur3, cs3, hA3, hcz3, hcur3, htx3, hin3⟩ := ST.out.blk HAT.out
        injection hA3 with hA3
        injection hA3 with hA3
        subst hA3
        have hlsn : ((t.put k bs).pcs.map (·.getD [])).length = cn := by rw [List.length_map, Tx.put_len, htl]
        have hsm := Tx.put_small (k := k) TOK.out.small hm7
        have hsz : ((t.put k bs).pcs.map (·.getD [])).flatten.length ≤ 1000000 := by
          have h1 := flat_small (ls := (t.put k bs).pcs.map (·.getD [])) (n := 8192) (fun l hl => by
            obtain ⟨x, hx, rfl⟩ := List.mem_map.1 hl
            cases x with
            | none => simp
            | some y => simpa using hsm y hx)
          rw [hlsn] at h1
          have : cn * 8192 ≤ 64 * 8192 := Nat.mul_le_mul_right _ (by omega)
          omega
        have PS := Lib.hid (show PsAt w7 (fun b => (S b ∨ New w b) ∧ ¬ RowB (some ⟨rb, 0, none⟩) c3 b) rb ((i3) * 132 + 68) ((t.put k bs).pcs.map (·.getD [])) from ⟨hcur3.lt, fun j l hj => by
          have hjl : j < cn := by have := (List.getElem?_eq_some_iff.1 hj).1; rw [hlsn] at this; exact this
          obtain ⟨u, hu, hbu⟩ := htx3.part j (by omega)
          have hc := (hcur3.cell _).trans (hin3 _ _ hu)
          rw [← Nat.add_assoc] at hc
          have hl : l = (t.put k bs).piece j := by
            unfold Tx.piece
            rw [List.getElem?_map] at hj
            cases hx : (t.put k bs).pcs[j]? with
            | none => rw [hx] at hj; cases hj
            | some x =>
              rw [hx] at hj
              injection hj with hj
              rw [← hj]
              cases x <;> rfl
          rw [hl]
          exact ⟨u, hc, hbu⟩⟩)
        have CONC := Lib.hid (fun W => concat_run rb ((i3) * 132 + 68) 64 (fun b => (S b ∨ New w b) ∧ ¬ RowB (some ⟨rb, 0, none⟩) c3 b) ((t.put k bs).pcs.map (·.getD [])) (by omega) hsz W)
        have HLS := Lib.hid hlsn
        have HWH := Lib.hid (show ((t.put k bs).pcs.map (·.getD [])).flatten = (t.put k bs).whole from rfl)
        have STB := Lib.hid ST.out.box
        have m0 : _ = some (Value.slice (some ⟨rb, 0, none⟩) T4.length c3) := STB.out.cell 0
        clear hcur3 htx3 hin3 hsz hsm hlsn
        go_wp2_with fail
        refine wp_region_N Noth (by kernel_rfl) ?_
        refine wpN_take (i := 0) (d := some 115) rfl rfl (by kernel_rfl) (by kernel_rfl) (by kernel_rfl) (fun _ _ _ h => h) (sure_value (v := .pointer (some ⟨g, 0, none⟩)) (by rfl) (fun v1 h1 => by first | rfl | (go_simp; done) | (go_simp; intro h9; exact absurd h9 (by omega)) | (go_simp; assumption))) (Only.refl _ _) ?_
        simp only [Act.put, List.setIfInBounds_toArray, List.set_cons_zero, List.set_cons_succ]
        refine wpN_take (i := 1) (d := some 116) rfl rfl (by kernel_rfl) (by kernel_rfl) (by kernel_rfl) (fun _ _ _ h => h) (sure_value (v := .pointer (some ⟨g, 0, none⟩)) (by rfl) (fun v1 h1 => by first | rfl | (go_simp; done) | (go_simp; intro h9; exact absurd h9 (by omega)) | (go_simp; assumption))) (Only.refl _ _) ?_
        simp only [Act.put, List.setIfInBounds_toArray, List.set_cons_zero, List.set_cons_succ]
        refine wpN_take (i := 2) (d := some 117) rfl rfl (by kernel_rfl) (by kernel_rfl) (by kernel_rfl) (fun _ _ _ h => h) (sure_value (v := .pointer (some ⟨g, 0, none⟩)) (by rfl) (fun v1 h1 => by first | rfl | (go_simp; done) | (go_simp; intro h9; exact absurd h9 (by omega)) | (go_simp; assumption))) (Only.refl _ _) ?_
        simp only [Act.put, List.setIfInBounds_toArray, List.set_cons_zero, List.set_cons_succ]
        refine wpN_take (i := 3) (d := some 118) rfl rfl (by kernel_rfl) (by kernel_rfl) (by kernel_rfl) (fun _ _ _ h => h) (sure_lit (v := .slice (some ⟨rb, 0, none⟩) T4.length c3) (i := 0) STB.out.drew rfl (fun h => h) (by rfl) (fun _ h => by go_simp)) (Only.refl _ _) ?_
        simp only [Act.put, List.setIfInBounds_toArray, List.set_cons_zero, List.set_cons_succ]
        refine wpN_take (i := 4) (d := some 119) rfl rfl (by kernel_rfl) (by kernel_rfl) (by kernel_rfl) (fun _ _ _ h => h) (sure_value (v := .int .i64 ((i3 : Int))) (by rfl) (fun v1 h1 => by first | rfl | (go_simp; done) | (go_simp; intro h9; exact absurd h9 (by omega)) | (go_simp; assumption))) (Only.refl _ _) ?_
        simp only [Act.put, List.setIfInBounds_toArray, List.set_cons_zero, List.set_cons_succ]
        refine wpN_take (i := 5) (d := some 120) rfl rfl (by kernel_rfl) (by kernel_rfl) (by kernel_rfl) (fun _ _ _ h => h) (sure_value (v := .pointer (some ⟨rb, (i3) * 132, none⟩)) (by rfl) (fun v1 h1 => by go_simp)) (Only.refl _ _) ?_
        simp only [Act.put, List.setIfInBounds_toArray, List.set_cons_zero, List.set_cons_succ]
        refine wpN_take (i := 6) (d := some 121) rfl rfl (by kernel_rfl) (by kernel_rfl) (by kernel_rfl) (fun _ _ _ h => h) (sure_value (v := .pointer (some ⟨rb, (i3) * 132 + 68, none⟩)) (by rfl) (fun v1 h1 => by first | rfl | (go_simp; done) | (go_simp; intro h9; exact absurd h9 (by omega)) | (go_simp; assumption))) (Only.refl _ _) ?_
        simp only [Act.put, List.setIfInBounds_toArray, List.set_cons_zero, List.set_cons_succ]
        refine wpN_take (i := 7) (d := some 122) rfl rfl (by kernel_rfl) (by kernel_rfl) (by kernel_rfl) (fun _ _ _ h => h) (sure_value (v := .pointer (some ⟨w.heap.size, 2, none⟩)) (by rfl) (fun v1 h1 => by first | rfl | (go_simp; done) | (go_simp; intro h9; exact absurd h9 (by omega)) | (go_simp; assumption))) (Only.refl _ _) ?_
        simp only [Act.put, List.setIfInBounds_toArray, List.set_cons_zero, List.set_cons_succ]
        refine wpN_take (i := 8) (d := some 123) rfl rfl (by kernel_rfl) (by kernel_rfl) (by kernel_rfl) (fun _ _ _ h => h) (sure_lit (v := .int .i64 (cn : Int)) (i := 2) PB.out.drew rfl (fun h => h) (by rfl) (fun _ h => by go_simp)) (Only.refl _ _) ?_
        simp only [Act.put, List.setIfInBounds_toArray, List.set_cons_zero, List.set_cons_succ]
        refine wpN_take (i := 9) (d := some 124) rfl rfl (by kernel_rfl) (by kernel_rfl) (by kernel_rfl) (fun _ _ _ h => h) (sure_value (v := .slice (some ⟨rb, (i3) * 132 + 68, none⟩) cn 64) (by rfl) (fun v1 h1 => by first | rfl | (go_simp; done) | (go_simp; intro h9; exact absurd h9 (by omega)) | (go_simp; assumption))) (Only.refl _ _) ?_
        simp only [Act.put, List.setIfInBounds_toArray, List.set_cons_zero, List.set_cons_succ]
        refine wpN_call (i := 10) (d := some 125) (T := fun u w1 w' => BsAt w' (New w7) u ((t.put k bs).pcs.map (·.getD [])).flatten ∧ Only Noth w7 w') (fun w1 h1 => by
          have hcc := CONC.out w1 (PS.out.noth (Only.undrew h1))
          rw [HLS.out] at hcc
          refine hcc.mono (fun r w' h => ?_)
          obtain ⟨⟨u, e1, e2⟩, e3⟩ := h
          exact ⟨u, e1, ⟨e2.mono (fun j hj _ => Nat.le_trans (Only.undrew h1).size hj), Only.undrew (h1.tr e3)⟩, h1.tr e3⟩) (by kernel_rfl) rfl rfl (by rfl) (fun _ => by go_simp) ?_
        rintro u8 w8 w9 h8 ⟨hub, h3⟩ h9
        simp only [Act.put, List.setIfInBounds_toArray, List.set_cons_zero, List.set_cons_succ]
        refine wpN_take (i := 11) (d := some 10) rfl rfl (by kernel_rfl) (by kernel_rfl) (by kernel_rfl) (fun _ _ _ h => h) (sure_value (v := u8) (by rfl) (fun v1 h1 => by first | rfl | (go_simp; done) | (go_simp; intro h9; exact absurd h9 (by omega)) | (go_simp; assumption))) h9 ?_
        simp only [Act.put, List.setIfInBounds_toArray, List.set_cons_zero, List.set_cons_succ]
        refine wpN_done (by kernel_rfl) (fun w10 ho => ?_) _
        have ST8 := Lib.hid (ST.out.noth (h3.tr ho))
        have UB := Lib.hid (hub.noth ho)
        have hz7 := (ST.out).only.size
        have hRW := Lib.hid (fun j (hj : RowB (some ⟨rb, 0, none⟩) c3 j) => show j < w7.heap.size from by obtain ⟨_, _, cu, hcu⟩ := ST.out.row_ne hj; exact hcu.lt)
        have hgW := Lib.hid (show g < w7.heap.size from STB.out.lt)
        have m0 : _ = some (Value.slice (some ⟨rb, 0, none⟩) T4.length c3) := ST8.out.box.cell 0
        clear ho hub h3 STB PS CONC
        go_wp2_with fail
        refine ((ST8.out).del_call hil4).mono ?_
        rintro e w12 ⟨rfl, hbx, hro, hst⟩
        have d0 : _ = some _ := hbx.cell 0
        have d1 := hbx.free 0
        have STF := Lib.hid hst
        have UF := Lib.hid (((UB.out.only hro (fun b hb hr => by have hb : w7.heap.size ≤ b := hb; have := hRW.out b hr; omega)).only ((Only.refl (fun k => k = g) w12).setCell (p := ⟨g, 0, none⟩) (fun _ => rfl) (.slice (some ⟨rb, 0, none⟩) (T4.length - 1) c3)) (fun b hb e => by have hb : w7.heap.size ≤ b := hb; have e : b = g := e; have := hgW.out; omega)).mono (fun b hb _ => show New w b from Nat.le_trans hz7 hb))
        have hjok := jadd_ok HOK.out frm ⟨id, (k : Int), (cn : Int), bs⟩
        rw [HR.out] at hjok
        have JK := Lib.hid hjok
        clear hbx hro hst hjok m0
        go_wp2
        refine bodyPost_ret (v := .tuple #[u8, .bool true, .int .i64 0]) (by simp [results, Tryd.results13, go_sem]) rfl ?_
        rw [HR.out]
        have STG := STF.out
        simp only [HER.out] at STG
        exact ⟨⟨_, rfl, by rw [← HWH.out]; exact UF.out⟩, STG.join JK.out, STG.only⟩
      · have hd : decide (((t.put k bs).left : Int) = 0) = false := by simpa using hdone
        rw [hd]
        have HR := Lib.hid (HPUT.out.trans (if_neg hdone))
        have hjok := jadd_ok HOK.out frm ⟨id, (k : Int), (cn : Int), bs⟩
        rw [HR.out] at hjok
        have JK := Lib.hid hjok
        clear hjok
        go_wp2_with fail
        refine bodyPost_ret (v := .tuple #[.slice none 0 0, .bool false, .int .i64 0]) (by simp [results, Tryd.results13, go_sem]) rfl ?_
        rw [HR.out]
        exact ⟨⟨_, rfl, BsAt.nil _ _⟩, ST.out.join JK.out, ST.out.only⟩
    · go_wp2_with fail
      obtain ⟨i3, hi3⟩ : ∃ i3 : Nat, (T3.length : Int) - 1 = (i3 : Int) := ⟨T3.length - 1, by omega⟩
      rw [hi3]
      have HO := Lib.hid (show J.open_ frm id cn = (⟨T3, (J).lost⟩, i3) from by
        have hn : (J.drop frm id).new frm id cn = ⟨T3, (J).lost⟩ := by
          rw [HD.out]
          unfold Jn.new
          rw [if_neg (by have := HL3.out; first | omega | (simp only; omega))]
          simp only [HT3.out]
        unfold Jn.open_
        rw [if_neg (by rw [HFT.out]; decide), hn]
        simp only
        congr 1
        omega)
      clear HT3 m0 m1 hi3 hz9
      obtain ⟨hJok, t, ht, htl, htf, hti⟩ := OPOK.out
      rw [HO.out] at hJok ht
      have JOK := Lib.hid hJok
      have HT := Lib.hid ht
      have hil := (List.getElem?_eq_some_iff.1 ht).1
      have hi16 := hJok.len
      simp only at hil hi16
      have hi17 : ((⟨T3, (J).lost⟩ : Jn)).T.length ≤ 17 := Nat.le_trans hi16 (by omega)
      obtain ⟨rb2, cur, cs, hA, hcz, hcur, htx, hin⟩ := ST.out.blk ht
      subst hA
      obtain ⟨rb, rfl⟩ : ∃ x, x = rb2 := ⟨_, rfl⟩
      have htok := hJok.all t (List.mem_of_getElem? ht)
      have TOK := Lib.hid htok
      have CUR := Lib.hid hcur
      have TXI := Lib.hid htx
      have HIN := Lib.hid hin
      have hn64 : t.pcs.length ≤ 64 := htok.n2
      have NRB := Lib.hid (show rb ≠ g ∧ (R rb ∨ New w rb) from ⟨(ST.out.row_ne ⟨hcz, rfl⟩).1, (ST.out.row_ne ⟨hcz, rfl⟩).2.1⟩)
      have NPB := Lib.hid (show w.heap.size ≠ rb from PB.out.ne_ hcur (by decide))
      have STB := Lib.hid ST.out.box
      have m0 : _ = some (Value.slice (some ⟨rb, 0, none⟩) ((⟨T3, (J).lost⟩ : Jn)).T.length c3) := STB.out.cell 0
      have HPUT := Lib.hid (show jadd J frm ⟨id, (k : Int), (cn : Int), bs⟩ = if (t.put k bs).left = 0 then (⟨((⟨T3, (J).lost⟩ : Jn)).T.eraseIdx (i3), ((⟨T3, (J).lost⟩ : Jn)).lost⟩, some (t.put k bs).whole, 0) else (⟨((⟨T3, (J).lost⟩ : Jn)).T.set (i3) (t.put k bs), ((⟨T3, (J).lost⟩ : Jn)).lost⟩, none, 0) by
        rw [HJ.out, HO.out]
        unfold Jn.at_
        simp only
        rw [ht]
        simp only [Option.getD_some]
        split <;> rfl)
      have hib : (i3) ≤ 100 := by omega
      clear hJok ht hcur htx hin htok
      refine wp_region_N (fun b => b = rb) (by kernel_rfl) ?_
      refine wpN_take (i := 0) (d := some 106) rfl rfl (by kernel_rfl) (by kernel_rfl) (by kernel_rfl) (fun _ _ _ h => h) (sure_value (v := .pointer (some ⟨g, 0, none⟩)) (by rfl) (fun v1 h1 => by first | rfl | (go_simp; done) | (go_simp; intro h9; exact absurd h9 (by omega)) | (go_simp; assumption))) (Only.refl _ _) ?_
      simp only [Act.put, List.setIfInBounds_toArray, List.set_cons_zero, List.set_cons_succ]
      refine wpN_take (i := 1) (d := some 107) rfl rfl (by kernel_rfl) (by kernel_rfl) (by kernel_rfl) (fun _ _ _ h => h) (sure_value (v := .pointer (some ⟨g, 0, none⟩)) (by rfl) (fun v1 h1 => by first | rfl | (go_simp; done) | (go_simp; intro h9; exact absurd h9 (by omega)) | (go_simp; assumption))) (Only.refl _ _) ?_
      simp only [Act.put, List.setIfInBounds_toArray, List.set_cons_zero, List.set_cons_succ]
      refine wpN_take (i := 2) (d := some 108) rfl rfl (by kernel_rfl) (by kernel_rfl) (by kernel_rfl) (fun _ _ _ h => h) (sure_value (v := .pointer (some ⟨g, 0, none⟩)) (by rfl) (fun v1 h1 => by first | rfl | (go_simp; done) | (go_simp; intro h9; exact absurd h9 (by omega)) | (go_simp; assumption))) (Only.refl _ _) ?_
      simp only [Act.put, List.setIfInBounds_toArray, List.set_cons_zero, List.set_cons_succ]
      refine wpN_take (i := 3) (d := some 109) rfl rfl (by kernel_rfl) (by kernel_rfl) (by kernel_rfl) (fun _ _ _ h => h) (sure_lit (v := .slice (some ⟨rb, 0, none⟩) ((⟨T3, (J).lost⟩ : Jn)).T.length c3) (i := 0) STB.out.drew rfl (fun hh => NRB.out.1 hh.symm) (by rfl) (fun _ h => by go_simp)) (Only.refl _ _) ?_
      simp only [Act.put, List.setIfInBounds_toArray, List.set_cons_zero, List.set_cons_succ]
      refine wpN_take (i := 4) (d := some 110) rfl rfl (by kernel_rfl) (by kernel_rfl) (by kernel_rfl) (fun _ _ _ h => h) (sure_value (v := .int .i64 ((i3 : Int))) (by rfl) (fun v1 h1 => by first | rfl | (go_simp; done) | (go_simp; intro h9; exact absurd h9 (by omega)) | (go_simp; assumption))) (Only.refl _ _) ?_
      simp only [Act.put, List.setIfInBounds_toArray, List.set_cons_zero, List.set_cons_succ]
      refine wpN_take (i := 5) (d := some 111) rfl rfl (by kernel_rfl) (by kernel_rfl) (by kernel_rfl) (fun _ _ _ h => h) (sure_value (v := .pointer (some ⟨rb, (i3) * 132, none⟩)) (by rfl) (fun v1 h1 => by first | rfl | (go_simp; done) | (go_simp; intro h9; exact absurd h9 (by omega)) | (go_simp; assumption))) (Only.refl _ _) ?_
      simp only [Act.put, List.setIfInBounds_toArray, List.set_cons_zero, List.set_cons_succ]
      refine wpN_take (i := 6) (d := some 112) rfl rfl (by kernel_rfl) (by kernel_rfl) (by kernel_rfl) (fun _ _ _ h => h) (sure_four PB.out.drew (fun hh => NPB.out hh) (by rfl) (fun _ h0 h1 h2 h3 => by go_simp)) (Only.refl _ _) ?_
      simp only [Act.put, List.setIfInBounds_toArray, List.set_cons_zero, List.set_cons_succ]
      refine wpN_call (i := 7) (d := some 113) (T := fun u w1 w' => u = .bool (decide (((t.put k bs).left : Int) = 0)) ∧ AddLeft w9 (fun b => (S b ∨ New w b) ∧ ¬ RowB (some ⟨rb, 0, none⟩) c3 b) rb (i3) cur (t.put k bs) w' ∧ Only (fun b => b = rb) w9 w') (fun w1 h1 => (text_add rb (i3) k id cn bs (.slice A0 bs.length c0) cur cs t _ _ w1 (CUR.out.only (Only.undrew h1) (fun h => h)) HIN.out (TXI.out.only (Only.undrew h1) (fun _ _ h => h)) (fun b hb e => hb.2 ⟨hcz, by rw [e]⟩) (by omega) hn64 TOK.out.left (HV.out.noth (Only.undrew h1)) (fun b hb e => (HSV.out b hb).2 (e ▸ NRB.out.2)) hm7).mono (fun r w' h => by obtain ⟨e1, e2, e3⟩ := h; exact ⟨_, e1, ⟨rfl, e2.up (Only.undrew h1).size, ((Only.undrew h1).mono (G := fun b => b = rb) (fun j hj _ => hj.elim)).trans e3 (fun j hj _ => hj)⟩, (h1.mono (G := fun b => b = rb) (fun j hj _ => hj.elim)).trans e3 (fun j hj _ => hj)⟩)) (by kernel_rfl) rfl rfl (by rfl) (fun _ => by go_simp) ?_
      rintro u w5 w6 h5 ⟨rfl, hleft, honly⟩ h6
      simp only [Act.put, List.setIfInBounds_toArray, List.set_cons_zero, List.set_cons_succ]
      refine wpN_take (i := 8) (d := some 114) rfl rfl (by kernel_rfl) (by kernel_rfl) (by kernel_rfl) (fun _ _ _ h => h) (sure_value (v := .bool (!decide (((t.put k bs).left : Int) = 0))) (by rfl) (fun v1 h1 => by first | rfl | (go_simp; done) | (go_simp; intro h9; exact absurd h9 (by omega)) | (go_simp; assumption))) h6 ?_
      simp only [Act.put, List.setIfInBounds_toArray, List.set_cons_zero, List.set_cons_succ]
      refine wpN_done (by kernel_rfl) (fun w7 ho => ?_) _
      obtain ⟨css4, hst4⟩ := (ST.out).put hil rfl hcz CUR.out hleft honly
      obtain ⟨T4, hT4⟩ : ∃ T4, ((⟨T3, (J).lost⟩ : Jn)).T.set (i3) (t.put k bs) = T4 := ⟨_, rfl⟩
      simp only [hT4] at hst4
      have hp4 := HPUT.out
      simp only [hT4] at hp4
      replace HPUT := Lib.hid hp4
      have hil4 : (i3) < T4.length := by rw [← hT4, List.length_set]; exact hil
      have hle4 : T4.length ≤ 17 := by rw [← hT4, List.length_set]; exact hi17
      have HER := Lib.hid (show T4.eraseIdx (i3) = ((⟨T3, (J).lost⟩ : Jn)).T.eraseIdx (i3) by rw [← hT4, List.eraseIdx_set_eq])
      have HAT := Lib.hid (show T4[i3]? = some (t.put k bs) by rw [← hT4]; exact List.getElem?_set_self hil)
      clear hT4 hp4
      replace ST := Lib.hid (hst4.noth ho)
      replace PB := Lib.hid ((PB.out.only honly NPB.out).only ho (fun h => h))
      clear h5 hleft honly h6 ho hst4 m0 STB CUR TXI HIN
      by_cases hdone : (t.put k bs).left = 0
      · have hd : decide (((t.put k bs).left : Int) = 0) = true := by simpa using hdone
        rw [hd]
        have HR := Lib.hid (HPUT.out.trans (if_pos hdone))
        obtain ⟨rb3, cur3, cs3, hA3, hcz3, hcur3, htx3, hin3⟩ := ST.out.blk HAT.out
        injection hA3 with hA3
        injection hA3 with hA3
        subst hA3
        have hlsn : ((t.put k bs).pcs.map (·.getD [])).length = cn := by rw [List.length_map, Tx.put_len, htl]
        have hsm := Tx.put_small (k := k) TOK.out.small hm7
        have hsz : ((t.put k bs).pcs.map (·.getD [])).flatten.length ≤ 1000000 := by
          have h1 := flat_small (ls := (t.put k bs).pcs.map (·.getD [])) (n := 8192) (fun l hl => by
            obtain ⟨x, hx, rfl⟩ := List.mem_map.1 hl
            cases x with
            | none => simp
            | some y => simpa using hsm y hx)
          rw [hlsn] at h1
          have : cn * 8192 ≤ 64 * 8192 := Nat.mul_le_mul_right _ (by omega)
          omega
        have PS := Lib.hid (show PsAt w7 (fun b => (S b ∨ New w b) ∧ ¬ RowB (some ⟨rb, 0, none⟩) c3 b) rb ((i3) * 132 + 68) ((t.put k bs).pcs.map (·.getD [])) from ⟨hcur3.lt, fun j l hj => by
          have hjl : j < cn := by have := (List.getElem?_eq_some_iff.1 hj).1; rw [hlsn] at this; exact this
          obtain ⟨u, hu, hbu⟩ := htx3.part j (by omega)
          have hc := (hcur3.cell _).trans (hin3 _ _ hu)
          rw [← Nat.add_assoc] at hc
          have hl : l = (t.put k bs).piece j := by
            unfold Tx.piece
            rw [List.getElem?_map] at hj
            cases hx : (t.put k bs).pcs[j]? with
            | none => rw [hx] at hj; cases hj
            | some x =>
              rw [hx] at hj
              injection hj with hj
              rw [← hj]
              cases x <;> rfl
          rw [hl]
          exact ⟨u, hc, hbu⟩⟩)
        have CONC := Lib.hid (fun W => concat_run rb ((i3) * 132 + 68) 64 (fun b => (S b ∨ New w b) ∧ ¬ RowB (some ⟨rb, 0, none⟩) c3 b) ((t.put k bs).pcs.map (·.getD [])) (by omega) hsz W)
        have HLS := Lib.hid hlsn
        have HWH := Lib.hid (show ((t.put k bs).pcs.map (·.getD [])).flatten = (t.put k bs).whole from rfl)
        have STB := Lib.hid ST.out.box
        have m0 : _ = some (Value.slice (some ⟨rb, 0, none⟩) T4.length c3) := STB.out.cell 0
        clear hcur3 htx3 hin3 hsz hsm hlsn
        go_wp2_with fail
        refine wp_region_N Noth (by kernel_rfl) ?_
        refine wpN_take (i := 0) (d := some 115) rfl rfl (by kernel_rfl) (by kernel_rfl) (by kernel_rfl) (fun _ _ _ h => h) (sure_value (v := .pointer (some ⟨g, 0, none⟩)) (by rfl) (fun v1 h1 => by first | rfl | (go_simp; done) | (go_simp; intro h9; exact absurd h9 (by omega)) | (go_simp; assumption))) (Only.refl _ _) ?_
        simp only [Act.put, List.setIfInBounds_toArray, List.set_cons_zero, List.set_cons_succ]
        refine wpN_take (i := 1) (d := some 116) rfl rfl (by kernel_rfl) (by kernel_rfl) (by kernel_rfl) (fun _ _ _ h => h) (sure_value (v := .pointer (some ⟨g, 0, none⟩)) (by rfl) (fun v1 h1 => by first | rfl | (go_simp; done) | (go_simp; intro h9; exact absurd h9 (by omega)) | (go_simp; assumption))) (Only.refl _ _) ?_
        simp only [Act.put, List.setIfInBounds_toArray, List.set_cons_zero, List.set_cons_succ]
        refine wpN_take (i := 2) (d := some 117) rfl rfl (by kernel_rfl) (by kernel_rfl) (by kernel_rfl) (fun _ _ _ h => h) (sure_value (v := .pointer (some ⟨g, 0, none⟩)) (by rfl) (fun v1 h1 => by first | rfl | (go_simp; done) | (go_simp; intro h9; exact absurd h9 (by omega)) | (go_simp; assumption))) (Only.refl _ _) ?_
        simp only [Act.put, List.setIfInBounds_toArray, List.set_cons_zero, List.set_cons_succ]
        refine wpN_take (i := 3) (d := some 118) rfl rfl (by kernel_rfl) (by kernel_rfl) (by kernel_rfl) (fun _ _ _ h => h) (sure_lit (v := .slice (some ⟨rb, 0, none⟩) T4.length c3) (i := 0) STB.out.drew rfl (fun h => h) (by rfl) (fun _ h => by go_simp)) (Only.refl _ _) ?_
        simp only [Act.put, List.setIfInBounds_toArray, List.set_cons_zero, List.set_cons_succ]
        refine wpN_take (i := 4) (d := some 119) rfl rfl (by kernel_rfl) (by kernel_rfl) (by kernel_rfl) (fun _ _ _ h => h) (sure_value (v := .int .i64 ((i3 : Int))) (by rfl) (fun v1 h1 => by first | rfl | (go_simp; done) | (go_simp; intro h9; exact absurd h9 (by omega)) | (go_simp; assumption))) (Only.refl _ _) ?_
        simp only [Act.put, List.setIfInBounds_toArray, List.set_cons_zero, List.set_cons_succ]
        refine wpN_take (i := 5) (d := some 120) rfl rfl (by kernel_rfl) (by kernel_rfl) (by kernel_rfl) (fun _ _ _ h => h) (sure_value (v := .pointer (some ⟨rb, (i3) * 132, none⟩)) (by rfl) (fun v1 h1 => by go_simp)) (Only.refl _ _) ?_
        simp only [Act.put, List.setIfInBounds_toArray, List.set_cons_zero, List.set_cons_succ]
        refine wpN_take (i := 6) (d := some 121) rfl rfl (by kernel_rfl) (by kernel_rfl) (by kernel_rfl) (fun _ _ _ h => h) (sure_value (v := .pointer (some ⟨rb, (i3) * 132 + 68, none⟩)) (by rfl) (fun v1 h1 => by first | rfl | (go_simp; done) | (go_simp; intro h9; exact absurd h9 (by omega)) | (go_simp; assumption))) (Only.refl _ _) ?_
        simp only [Act.put, List.setIfInBounds_toArray, List.set_cons_zero, List.set_cons_succ]
        refine wpN_take (i := 7) (d := some 122) rfl rfl (by kernel_rfl) (by kernel_rfl) (by kernel_rfl) (fun _ _ _ h => h) (sure_value (v := .pointer (some ⟨w.heap.size, 2, none⟩)) (by rfl) (fun v1 h1 => by first | rfl | (go_simp; done) | (go_simp; intro h9; exact absurd h9 (by omega)) | (go_simp; assumption))) (Only.refl _ _) ?_
        simp only [Act.put, List.setIfInBounds_toArray, List.set_cons_zero, List.set_cons_succ]
        refine wpN_take (i := 8) (d := some 123) rfl rfl (by kernel_rfl) (by kernel_rfl) (by kernel_rfl) (fun _ _ _ h => h) (sure_lit (v := .int .i64 (cn : Int)) (i := 2) PB.out.drew rfl (fun h => h) (by rfl) (fun _ h => by go_simp)) (Only.refl _ _) ?_
        simp only [Act.put, List.setIfInBounds_toArray, List.set_cons_zero, List.set_cons_succ]
        refine wpN_take (i := 9) (d := some 124) rfl rfl (by kernel_rfl) (by kernel_rfl) (by kernel_rfl) (fun _ _ _ h => h) (sure_value (v := .slice (some ⟨rb, (i3) * 132 + 68, none⟩) cn 64) (by rfl) (fun v1 h1 => by first | rfl | (go_simp; done) | (go_simp; intro h9; exact absurd h9 (by omega)) | (go_simp; assumption))) (Only.refl _ _) ?_
        simp only [Act.put, List.setIfInBounds_toArray, List.set_cons_zero, List.set_cons_succ]
        refine wpN_call (i := 10) (d := some 125) (T := fun u w1 w' => BsAt w' (New w7) u ((t.put k bs).pcs.map (·.getD [])).flatten ∧ Only Noth w7 w') (fun w1 h1 => by
          have hcc := CONC.out w1 (PS.out.noth (Only.undrew h1))
          rw [HLS.out] at hcc
          refine hcc.mono (fun r w' h => ?_)
          obtain ⟨⟨u, e1, e2⟩, e3⟩ := h
          exact ⟨u, e1, ⟨e2.mono (fun j hj _ => Nat.le_trans (Only.undrew h1).size hj), Only.undrew (h1.tr e3)⟩, h1.tr e3⟩) (by kernel_rfl) rfl rfl (by rfl) (fun _ => by go_simp) ?_
        rintro u8 w8 w9 h8 ⟨hub, h3⟩ h9
        simp only [Act.put, List.setIfInBounds_toArray, List.set_cons_zero, List.set_cons_succ]
        refine wpN_take (i := 11) (d := some 10) rfl rfl (by kernel_rfl) (by kernel_rfl) (by kernel_rfl) (fun _ _ _ h => h) (sure_value (v := u8) (by rfl) (fun v1 h1 => by first | rfl | (go_simp; done) | (go_simp; intro h9; exact absurd h9 (by omega)) | (go_simp; assumption))) h9 ?_
        simp only [Act.put, List.setIfInBounds_toArray, List.set_cons_zero, List.set_cons_succ]
        refine wpN_done (by kernel_rfl) (fun w10 ho => ?_) _
        have ST8 := Lib.hid (ST.out.noth (h3.tr ho))
        have UB := Lib.hid (hub.noth ho)
        have hz7 := (ST.out).only.size
        have hRW := Lib.hid (fun j (hj : RowB (some ⟨rb, 0, none⟩) c3 j) => show j < w7.heap.size from by obtain ⟨_, _, cu, hcu⟩ := ST.out.row_ne hj; exact hcu.lt)
        have hgW := Lib.hid (show g < w7.heap.size from STB.out.lt)
        have m0 : _ = some (Value.slice (some ⟨rb, 0, none⟩) T4.length c3) := ST8.out.box.cell 0
        clear ho hub h3 STB PS CONC
        go_wp2_with fail
        refine ((ST8.out).del_call hil4).mono ?_
        rintro e w12 ⟨rfl, hbx, hro, hst⟩
        have d0 : _ = some _ := hbx.cell 0
        have d1 := hbx.free 0
        have STF := Lib.hid hst
        have UF := Lib.hid (((UB.out.only hro (fun b hb hr => by have hb : w7.heap.size ≤ b := hb; have := hRW.out b hr; omega)).only ((Only.refl (fun k => k = g) w12).setCell (p := ⟨g, 0, none⟩) (fun _ => rfl) (.slice (some ⟨rb, 0, none⟩) (T4.length - 1) c3)) (fun b hb e => by have hb : w7.heap.size ≤ b := hb; have e : b = g := e; have := hgW.out; omega)).mono (fun b hb _ => show New w b from Nat.le_trans hz7 hb))
        have hjok := jadd_ok HOK.out frm ⟨id, (k : Int), (cn : Int), bs⟩
        rw [HR.out] at hjok
        have JK := Lib.hid hjok
        clear hbx hro hst hjok m0
        go_wp2
        refine bodyPost_ret (v := .tuple #[u8, .bool true, .int .i64 0]) (by simp [results, Tryd.results13, go_sem]) rfl ?_
        rw [HR.out]
        have STG := STF.out
        simp only [HER.out] at STG
        exact ⟨⟨_, rfl, by rw [← HWH.out]; exact UF.out⟩, STG.join JK.out, STG.only⟩
      · have hd : decide (((t.put k bs).left : Int) = 0) = false := by simpa using hdone
        rw [hd]
        have HR := Lib.hid (HPUT.out.trans (if_neg hdone))
        have hjok := jadd_ok HOK.out frm ⟨id, (k : Int), (cn : Int), bs⟩
        rw [HR.out] at hjok
        have JK := Lib.hid hjok
        clear hjok
        go_wp2_with fail
        refine bodyPost_ret (v := .tuple #[.slice none 0 0, .bool false, .int .i64 0]) (by simp [results, Tryd.results13, go_sem]) rfl ?_
        rw [HR.out]
        exact ⟨⟨_, rfl, BsAt.nil _ _⟩, ST.out.join JK.out, ST.out.only⟩

end Go.Proofs.YtemeglofblnnmaaDoor
