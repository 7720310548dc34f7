/- The document's Of. -/
import Derived.Test.YtgclhkknkppmbaaDoorNBack
import Derived.Test.YtgclhkknkppmbaaDoorRefE
import Derived.Test.YtgclhkknkppmbaaDoorRefC
namespace Go.Proofs.YtgclhkknkppmbaaDoor
open Go.RowKit Go.Lib
set_option linter.unusedVariables false
set_option maxRecDepth 100000
attribute [local go_sem ↓] Go.wp_at_zero Go.wp_at_succ

theorem back_err {s : Snd} {o k : Int} {y : Ent} (h : s.ent o k = (y, 0)) : (rdS y).1.err = 0 := by
  obtain ⟨_, _, hk, _, _, _, _, hy⟩ := ent_ok h
  have hk1 : s.k = 110 :: tList [tText s.rcv.data.toList, tText s.key.data.toList] := rfl
  have hl : (tText s.rcv.data.toList).length + (tText s.key.data.toList).length + 3 ≤ 1024 := by
    rw [hk1] at hk
    simp only [tList, List.length_cons, List.length_append, List.flatten_cons, List.flatten_nil, List.length_nil] at hk
    omega
  rw [tText_length, tText_length] at hl
  have hkey : y.key.data.toList.drop 1 = 108 :: (tText s.rcv.data.toList ++ (tText s.key.data.toList ++ [101])) := by
    rw [hy]
    show s.k.toArray.toList.drop 1 = _
    rw [hk1]
    simp [tList]
  unfold rdS
  rw [hkey, Rd.byte_laid, Rd.text_laid _ _ _ (by omega) (by omega)]
  simp only
  rw [Rd.text_laid _ _ _ (by omega) (by omega)]
/-- A string stored into a box. -/
theorem wpList_store_str {ops : Array Oper} {rest : List Oper} {o : Oper} {a : Act} {w : World} {Q : Exit → Act → World → Prop} (hgd : o.guard = none) (hdst : o.dst = none) (x y : Operand) (ho : o.op = .store 9 x y)
    (g i : Nat) (hx : a.eval x = .pointer (some ⟨g, i, none⟩)) (s : ByteArray) (hy : a.eval y = .string s) (t : TypeId) (cs : Array Value) (hg : Hld w g t cs) (u : Value) (hu : cs[i]? = some u)
    (h : ∀ w', Hld w' g t (cs.setIfInBounds i (.string s)) → Only (fun k => k = g) w w' → wpList Tryd.prog ops Q rest a w') : wpList Tryd.prog ops Q (o :: rest) a w := by
  refine wpList_plain hgd fun K hK => ?_
  have c0 := (hg.cell i).trans hu
  have f0 := hg.free i
  have := hK _ _ (h _ (hg.set_ i (.string s)) ((Only.refl (fun k => k = g) w).setCell (p := ⟨g, i, none⟩) (fun _ => rfl) _))
  have hp : ∀ v, a.put none v = a := fun _ => rfl
  unfold Oper.wp execOp
  simp only [ho, hx, hy]
  go_simp
  simpa [Oper.upon, hdst, hp] using this
/-- The boxes of the document's Of. -/
structure ROf (w W : World) (e : Ent) (xb sb : Nat) (A : Option Addr) (c : Nat) (r : Rd) (s : Snd) : Prop where
  eb : Hld W w.heap.size 24 #[.string e.key, .int .i64 e.time, .int .u16 e.org, .string e.val, .int .i64 e.til]
  rb : Hld W (w.heap.size + 1) 35 #[.string ⟨#[]⟩, .string ⟨#[]⟩, .string ⟨#[]⟩, .int .i64 0]
  xf : Hld W xb 83 #[.slice A r.b.length c, .int .i64 r.err]
  rv : Rv W (.agg #[.slice A r.b.length c, .int .i64 r.err]) r
  sf : Hld W sb 35 #[.string s.rcv, .string s.key, .string s.rev, .int .i64 s.at_]
  only : Only Noth w W
  l1 : w.heap.size + 1 < xb
  l2 : xb < sb
section
variable {w W W1 W2 : World} {e : Ent} {xb sb : Nat} {A A' : Option Addr} {c c' : Nat} {r r' : Rd} {s s' : Snd}
theorem ROf.noth (h : ROf w W e xb sb A c r s) (ho : Only Noth W W1) : ROf w W1 e xb sb A c r s := ⟨h.eb.only ho (fun h => h), h.rb.only ho (fun h => h), h.xf.only ho (fun h => h), h.rv.noth ho, h.sf.only ho (fun h => h), h.only.tr ho, h.l1, h.l2⟩
theorem ROf.putx (h : ROf w W e xb sb A c r s) (hv : Rv W (.agg #[.slice A' r'.b.length c', .int .i64 r'.err]) r') (hb : Hld W2 xb 83 #[.slice A' r'.b.length c', .int .i64 r'.err]) (h2 : Only (fun k => k = xb) W W2) : ROf w W2 e xb sb A' c' r' s := by
  obtain ⟨A2, c2, e2, hp, hs⟩ := hv
  have l1 := h.l1
  have l2 := h.l2
  exact ⟨h.eb.only h2 (fun h => by have : w.heap.size = xb := h; omega), h.rb.only h2 (fun h => by have : w.heap.size + 1 = xb := h; omega), hb, ⟨A2, c2, e2, hp.off h.xf (noByte_box _ _ _ _) h2, hs⟩, h.sf.only h2 (fun h => by have : sb = xb := h; omega), h.only.trans h2 (fun j hj hl => by have : j = xb := hj; omega), l1, l2⟩
theorem noByte_snd (s : Snd) : NoByte #[.string s.rcv, .string s.key, .string s.rev, .int .i64 s.at_] := by
  intro i n
  match i with
  | 0 => simp
  | 1 => simp
  | 2 => simp
  | 3 => simp
  | i + 4 => simp
theorem ROf.puts (h : ROf w W e xb sb A c r s) (hb : Hld W2 sb 35 #[.string s'.rcv, .string s'.key, .string s'.rev, .int .i64 s'.at_]) (h2 : Only (fun k => k = sb) W W2) : ROf w W2 e xb sb A c r s' := by
  obtain ⟨A2, c2, e2, hp, hs⟩ := h.rv
  have l1 := h.l1
  have l2 := h.l2
  exact ⟨h.eb.only h2 (fun h => by have : w.heap.size = sb := h; omega), h.rb.only h2 (fun h => by have : w.heap.size + 1 = sb := h; omega), h.xf.only h2 (fun h => by have : xb = sb := h; omega), ⟨A2, c2, e2, hp.off h.sf (noByte_snd s) h2, hs⟩, hb, h.only.trans h2 (fun j hj hl => by have : j = sb := hj; omega), l1, l2⟩
end
section
variable (e : Ent) (w : World)
theorem rof_nil (h : e.key.size < 1) (hb : ofB e = false) : Calls Tryd.prog 36 #[.agg #[.string e.key, .int .i64 e.time, .int .u16 e.org, .string e.val, .int .i64 e.til]] w (OfPost e w) := by
  have NO := Lib.hid (ofR_no hb)
  have d1 : decide ((e.key.size : Int) < 1) = true := by simp; omega
  have h1 : (e.key.size : Int) ≤ 9223372036854775807 := by omega
  clear hb
  go_enter Tryd.func36, Tryd.ntmps36
  go_wp2
  refine bodyPost_ret (v := .tuple #[.agg #[.string ⟨#[]⟩, .string ⟨#[]⟩, .string ⟨#[]⟩, .int .i64 0], .bool false]) (by simp [results, Tryd.results36, go_sem]) rfl ⟨_, _, NO.out, rfl, ((Only.refl _ _).alloc _).alloc _⟩
variable (hk : e.key.size ≤ 140737488355000) (hv : e.val.size ≤ 9223372036854775807) (ht0 : -9223372036854775808 ≤ e.time) (ht1 : e.time ≤ 9223372036854775807) (hu0 : -9223372036854775808 ≤ e.til) (hu1 : e.til ≤ 9223372036854775807)
include hk hv ht0 ht1 hu0 hu1
set_option maxHeartbeats 8000000 in
theorem rof_read (h : 1 ≤ e.key.size) : Calls Tryd.prog 36 #[.agg #[.string e.key, .int .i64 e.time, .int .u16 e.org, .string e.val, .int .i64 e.til]] w (OfPost e w) := by
  have d1 : decide ((e.key.size : Int) < 1) = false := by simp; omega
  have h1 : (e.key.size : Int) ≤ 9223372036854775807 := by omega
  have h2 : (1 : Int) ≤ e.key.size := by omega
  obtain ⟨D, hD⟩ : ∃ D, e.key.extract 1 e.key.size = D := ⟨_, rfl⟩
  have hDl : D.data.toList = e.key.data.toList.drop 1 := by rw [← hD, Go.Lib.extract_to_end]
  have hDs : D.size + 1 = e.key.size := by
    have e1 : D.data.toList.length = D.size := rfl
    have e2 : e.key.data.toList.length = e.key.size := rfl
    rw [← e1, hDl, List.length_drop]; omega
  obtain ⟨A, c, WC, hcv, hp, ho⟩ := conv_bytes D (by omega) ((w.alloc (.cells #[.string e.key, .int .i64 e.time, .int .u16 e.org, .string e.val, .int .i64 e.til] 24)).alloc (.cells #[.string ⟨#[]⟩, .string ⟨#[]⟩, .string ⟨#[]⟩, .int .i64 0] 35))
  have EB := Lib.hid (((Hld.new w 24 #[.string e.key, .int .i64 e.time, .int .u16 e.org, .string e.val, .int .i64 e.til]).alloc (.cells #[.string ⟨#[]⟩, .string ⟨#[]⟩, .string ⟨#[]⟩, .int .i64 0] 35)).only ho (fun h => h))
  have RB := Lib.hid ((Hld.at_ (w.alloc (.cells #[.string e.key, .int .i64 e.time, .int .u16 e.org, .string e.val, .int .i64 e.til] 24)) 35 #[.string ⟨#[]⟩, .string ⟨#[]⟩, .string ⟨#[]⟩, .int .i64 0] (w.heap.size + 1) (by simp)).only ho (fun h => h))
  have ON := Lib.hid ((((Only.refl Noth w).alloc (.cells #[.string e.key, .int .i64 e.time, .int .u16 e.org, .string e.val, .int .i64 e.til] 24)).alloc (.cells #[.string ⟨#[]⟩, .string ⟨#[]⟩, .string ⟨#[]⟩, .int .i64 0] 35)).tr ho)
  have RV := Lib.hid (show Rv WC (.agg #[.slice A (⟨D.data.toList, 0⟩ : Rd).b.length c, .int .i64 (⟨D.data.toList, 0⟩ : Rd).err]) ⟨D.data.toList, 0⟩ from ⟨A, c, rfl, hp, Rd.sane_mk _⟩)
  obtain ⟨r0, hr0⟩ : ∃ r, Rd.byte ⟨D.data.toList, 0⟩ 108 = r := ⟨_, rfl⟩
  obtain ⟨r1, kr, hr1⟩ : ∃ (x : Rd) (k : ByteArray), r0.text 1024 = (x, k.data.toList) := ⟨(r0.text 1024).1, ⟨(r0.text 1024).2.toArray⟩, rfl⟩
  obtain ⟨r2, kk, hr2⟩ : ∃ (x : Rd) (k : ByteArray), r1.text 1024 = (x, k.data.toList) := ⟨(r1.text 1024).1, ⟨(r1.text 1024).2.toArray⟩, rfl⟩
  have hrd : rdS e = (r2, ⟨kr, kk, e.val, e.time⟩) := by
    unfold rdS
    rw [← hDl, hr0, hr1]
    simp only
    rw [hr2]
  obtain ⟨y, hy⟩ : ∃ y, (⟨kr, kk, e.val, e.time⟩ : Snd).ent e.org (e.til - e.time) = y := ⟨_, rfl⟩
  have RS := Lib.hid (show (⟨kr, kk, e.val, e.time⟩ : Snd).rcv.size + (⟨kr, kk, e.val, e.time⟩ : Snd).key.size ≤ 140737488355000 by
    have := rdS_len e
    rw [hrd] at this
    simp only at this ⊢
    omega)
  have HRD := Lib.hid hrd
  have X := Lib.hid hy
  have R0 := Lib.hid hr0
  have R1 := Lib.hid hr1
  have R2 := Lib.hid hr2
  clear hDl hp ho hr0 hr1 hr2 hrd hy
  go_enter Tryd.func36, Tryd.ntmps36
  go_wp2_with fail
  refine (rb_v _ _ r0 108 R0.out _ RV.out).mono ?_
  rintro x w1 ⟨A0, c0', rfl, hx, ho⟩
  obtain ⟨b0, b1, b2, b3, b4⟩ := ((EB.out.only ho (fun h => h)).alloc (.cells #[.slice A0 r0.b.length c0', .int .i64 r0.err] 83)).five
  have G0 := Lib.hid (show ROf w ((w1.alloc (.cells #[.slice A0 r0.b.length c0', .int .i64 r0.err] 83)).alloc (.cells #[.string ⟨#[]⟩, .string ⟨#[]⟩, .string e.val, .int .i64 e.time] 35)) e w1.heap.size (w1.heap.size + 1) A0 c0' r0 ⟨⟨#[]⟩, ⟨#[]⟩, e.val, e.time⟩ from
    ⟨((EB.out.only ho (fun h => h)).alloc _).alloc _, ((RB.out.only ho (fun h => h)).alloc _).alloc _, (Hld.new _ _ _).alloc _, (hx.noth ((Only.refl _ _).alloc _)).noth ((Only.refl _ _).alloc _), Hld.at_ _ _ _ _ (by simp), ((ON.out.tr ho).alloc _).alloc _, (RB.out.only ho (fun h => h)).lt, by omega⟩)
  clear hx ho RV
  go_wp2_with fail
  clear b0 b1 b2 b3 b4
  refine (rt_v _ _ r1 1024 kr R1.out _ G0.out.rv).mono ?_
  rintro x w2 ⟨A1, c1', rfl, hx, ho⟩
  have G1 := Lib.hid (G0.out.noth ho)
  have HX := Lib.hid hx
  obtain ⟨xb, hxb⟩ : ∃ x, w1.heap.size = x := ⟨_, rfl⟩
  rw [hxb] at G1 ⊢
  clear hx ho G0 hxb
  go_wp2_with (first | (refine wpList_store_whole rfl rfl 83 (.tmp 4) (.tmp 27) rfl xb rfl #[.slice A1 r1.b.length c1', .int .i64 r1.err] rfl 83 _ G1.out.xf rfl (by simp [Value.oneCell']) (by kernel_rfl) ?_; intro w3 hb9 ho9 _; have G2 := Lib.hid (G1.out.putx HX.out hb9 ho9); obtain ⟨x0, x1⟩ := hb9.two; clear hb9 ho9 HX) | (refine wpList_store_str rfl rfl (.tmp 29) (.tmp 28) rfl (xb + 1) 0 rfl kr rfl 35 _ G2.out.sf _ rfl ?_; intro w4 hb9 ho9; have G3 := Lib.hid (ROf.puts (s' := ⟨kr, ⟨#[]⟩, e.val, e.time⟩) G2.out hb9 ho9); clear hb9 ho9 x0 x1; obtain ⟨x0, x1⟩ := G3.out.xf.two))
  refine (rt_v _ _ r2 1024 kk R2.out _ G3.out.rv).mono ?_
  rintro x w5 ⟨A2, c2', rfl, hx, ho⟩
  have G4 := Lib.hid (G3.out.noth ho)
  have HX := Lib.hid hx
  clear hx ho G1 G2 G3 x0 x1
  by_cases g1 : e.time < 0 ∨ e.til < e.time
  · have NO := Lib.hid (ofR_no (e := e) (by cases hb : ofB e; rfl; exact absurd (ofB_time hb) (by intro ⟨h1, _, h3⟩; have := okT_iff.1 h1; omega)))
    by_cases g2 : e.time < 0
    · have d2 : decide (e.time < 0) = true := by simpa using g2
      clear g1
      go_wp2_with (first | (refine wpList_store_whole rfl rfl 83 (.tmp 4) (.tmp 33) rfl xb rfl #[.slice A2 r2.b.length c2', .int .i64 r2.err] rfl 83 _ G4.out.xf rfl (by simp [Value.oneCell']) (by kernel_rfl) ?_; intro w6 hb9 ho9 _; have G5 := Lib.hid (G4.out.putx HX.out hb9 ho9); clear hb9 ho9 HX) | (refine wpList_store_str rfl rfl (.tmp 35) (.tmp 34) rfl (xb + 1) 1 rfl kk rfl 35 _ G5.out.sf _ rfl ?_; intro w7 hb9 ho9; have G6 := Lib.hid (ROf.puts (s' := ⟨kr, kk, e.val, e.time⟩) G5.out hb9 ho9); clear hb9 ho9; obtain ⟨x0, x1⟩ := G6.out.xf.two; obtain ⟨b0, b1, b2, b3, b4⟩ := G6.out.eb.five; obtain ⟨s0, s1, s2, s3⟩ := G6.out.sf.four) | (refine wpList_store_whole rfl rfl 35 (.tmp 2) (.tmp 46) rfl (w.heap.size + 1) rfl #[.string ⟨#[]⟩, .string ⟨#[]⟩, .string ⟨#[]⟩, .int .i64 0] rfl 35 _ G6.out.rb rfl (by simp [Value.oneCell']) (by kernel_rfl) ?_; intro w9 hb9 ho9 _; obtain ⟨y0, y1, y2, y3⟩ := hb9.four; have O9 := Lib.hid ho9; clear hb9 ho9))
      refine bodyPost_ret (v := .tuple #[.agg #[.string ⟨#[]⟩, .string ⟨#[]⟩, .string ⟨#[]⟩, .int .i64 0], .bool false]) (by simp [results, Tryd.results36, go_sem, y0, y1, y2, y3]) rfl ⟨zs, false, NO.out, rfl, ?_⟩
      exact G6.out.only.trans O9.out (fun j hj hl => absurd hl (by have : j = w.heap.size + 1 := hj; omega))
    · have d2 : decide (e.time < 0) = false := by simpa using g2
      have d3 : decide (e.til < e.time) = true := by simp; omega
      clear g1
      go_wp2_with (first | (refine wpList_store_whole rfl rfl 83 (.tmp 4) (.tmp 33) rfl xb rfl #[.slice A2 r2.b.length c2', .int .i64 r2.err] rfl 83 _ G4.out.xf rfl (by simp [Value.oneCell']) (by kernel_rfl) ?_; intro w6 hb9 ho9 _; have G5 := Lib.hid (G4.out.putx HX.out hb9 ho9); clear hb9 ho9 HX) | (refine wpList_store_str rfl rfl (.tmp 35) (.tmp 34) rfl (xb + 1) 1 rfl kk rfl 35 _ G5.out.sf _ rfl ?_; intro w7 hb9 ho9; have G6 := Lib.hid (ROf.puts (s' := ⟨kr, kk, e.val, e.time⟩) G5.out hb9 ho9); clear hb9 ho9; obtain ⟨x0, x1⟩ := G6.out.xf.two; obtain ⟨b0, b1, b2, b3, b4⟩ := G6.out.eb.five; obtain ⟨s0, s1, s2, s3⟩ := G6.out.sf.four) | (refine wpList_store_whole rfl rfl 35 (.tmp 2) (.tmp 46) rfl (w.heap.size + 1) rfl #[.string ⟨#[]⟩, .string ⟨#[]⟩, .string ⟨#[]⟩, .int .i64 0] rfl 35 _ G6.out.rb rfl (by simp [Value.oneCell']) (by kernel_rfl) ?_; intro w9 hb9 ho9 _; obtain ⟨y0, y1, y2, y3⟩ := hb9.four; have O9 := Lib.hid ho9; clear hb9 ho9))
      refine bodyPost_ret (v := .tuple #[.agg #[.string ⟨#[]⟩, .string ⟨#[]⟩, .string ⟨#[]⟩, .int .i64 0], .bool false]) (by simp [results, Tryd.results36, go_sem, y0, y1, y2, y3]) rfl ⟨zs, false, NO.out, rfl, ?_⟩
      exact G6.out.only.trans O9.out (fun j hj hl => absurd hl (by have : j = w.heap.size + 1 := hj; omega))
  · have g2 : ¬ e.time < 0 := fun h => g1 (.inl h)
    have g3 : ¬ e.til < e.time := fun h => g1 (.inr h)
    have d2 : decide (e.time < 0) = false := by simpa using g2
    have d3 : decide (e.til < e.time) = false := by simpa using g3
    have hw : IntKind.i64.wrap (e.til - e.time) = e.til - e.time := IntWalk.i64_in _ (by omega)
    clear g1
    go_wp2_with (first | (refine wpList_store_whole rfl rfl 83 (.tmp 4) (.tmp 33) rfl xb rfl #[.slice A2 r2.b.length c2', .int .i64 r2.err] rfl 83 _ G4.out.xf rfl (by simp [Value.oneCell']) (by kernel_rfl) ?_; intro w6 hb9 ho9 _; have G5 := Lib.hid (G4.out.putx HX.out hb9 ho9); clear hb9 ho9 HX) | (refine wpList_store_str rfl rfl (.tmp 35) (.tmp 34) rfl (xb + 1) 1 rfl kk rfl 35 _ G5.out.sf _ rfl ?_; intro w7 hb9 ho9; have G6 := Lib.hid (ROf.puts (s' := ⟨kr, kk, e.val, e.time⟩) G5.out hb9 ho9); clear hb9 ho9; obtain ⟨x0, x1⟩ := G6.out.xf.two; obtain ⟨b0, b1, b2, b3, b4⟩ := G6.out.eb.five; obtain ⟨s0, s1, s2, s3⟩ := G6.out.sf.four))
    refine (ref_nentry ⟨kr, kk, e.val, e.time⟩ e.org (e.til - e.time) RS.out hv (by omega) (by omega) _).mono ?_
    rw [X.out]
    rintro x w8 ⟨rfl, ho⟩
    have G7 := Lib.hid ((G6.out.noth ho).noth ((Only.refl _ _).alloc (.cells #[.string y.1.key, .int .i64 y.1.time, .int .u16 y.1.org, .string y.1.val, .int .i64 y.1.til] 24)))
    clear ho G4 G5 G6 x0 x1 b0 b1 b2 b3 b4 s0 s1 s2 s3
    obtain ⟨x0, x1⟩ := G7.out.xf.two
    obtain ⟨b0, b1, b2, b3, b4⟩ := G7.out.eb.five
    obtain ⟨s0, s1, s2, s3⟩ := G7.out.sf.four
    cases hb : ofB e
    · have NO := Lib.hid (ofR_no hb)
      have hcond : ¬ (y.1.same e = true ∧ y.2 = 0) := by
        rintro ⟨h1, h2⟩
        rw [ofB_iff.2 (by rw [HRD.out, X.out]; exact Prod.ext (same_iff.1 h1) h2)] at hb
        cases hb
      clear hb
      by_cases he0 : r2.err = 0
      · have e0 : (r2.err != 0) = false := by simpa using he0
        clear he0
        by_cases hf : y.2 = 0
        · have e1 : (y.2 != 0) = false := by simpa using hf
          have hsm : y.1.same e = false := by
            cases hs : y.1.same e
            · rfl
            · exact absurd ⟨hs, hf⟩ hcond
          have hne : ∀ V, (binOp .neq 24 (.agg #[.string y.1.key, .int .i64 y.1.time, .int .u16 y.1.org, .string y.1.val, .int .i64 y.1.til]) (.agg #[.string e.key, .int .i64 e.time, .int .u16 e.org, .string e.val, .int .i64 e.til])).run Tryd.prog V = .ok (.bool true) V := fun V => by rw [ne_ent y.1 e V, hsm]; rfl
          have hgd := guard_ent
          clear hf hsm hcond
          go_wp2_with (refine wpList_store_whole rfl rfl 35 (.tmp 2) (.tmp 71) rfl (w.heap.size + 1) rfl #[.string ⟨#[]⟩, .string ⟨#[]⟩, .string ⟨#[]⟩, .int .i64 0] rfl 35 _ G7.out.rb rfl (by simp [Value.oneCell']) (by kernel_rfl) ?_; intro w9 hb9 ho9 _; obtain ⟨y0, y1, y2, y3⟩ := hb9.four; have O9 := Lib.hid ho9; clear hb9 ho9)
          refine bodyPost_ret (v := .tuple #[.agg #[.string ⟨#[]⟩, .string ⟨#[]⟩, .string ⟨#[]⟩, .int .i64 0], .bool false]) (by simp [results, Tryd.results36, go_sem, y0, y1, y2, y3]) rfl ⟨zs, false, NO.out, rfl, ?_⟩
          exact G7.out.only.trans O9.out (fun j hj hl => absurd hl (by have : j = w.heap.size + 1 := hj; omega))
        · have e1 : (y.2 != 0) = true := by simpa using hf
          clear hf hcond
          go_wp2_with (refine wpList_store_whole rfl rfl 35 (.tmp 2) (.tmp 71) rfl (w.heap.size + 1) rfl #[.string ⟨#[]⟩, .string ⟨#[]⟩, .string ⟨#[]⟩, .int .i64 0] rfl 35 _ G7.out.rb rfl (by simp [Value.oneCell']) (by kernel_rfl) ?_; intro w9 hb9 ho9 _; obtain ⟨y0, y1, y2, y3⟩ := hb9.four; have O9 := Lib.hid ho9; clear hb9 ho9)
          refine bodyPost_ret (v := .tuple #[.agg #[.string ⟨#[]⟩, .string ⟨#[]⟩, .string ⟨#[]⟩, .int .i64 0], .bool false]) (by simp [results, Tryd.results36, go_sem, y0, y1, y2, y3]) rfl ⟨zs, false, NO.out, rfl, ?_⟩
          exact G7.out.only.trans O9.out (fun j hj hl => absurd hl (by have : j = w.heap.size + 1 := hj; omega))
      · have e0 : (r2.err != 0) = true := by simpa using he0
        clear he0 hcond
        go_wp2_with (refine wpList_store_whole rfl rfl 35 (.tmp 2) (.tmp 71) rfl (w.heap.size + 1) rfl #[.string ⟨#[]⟩, .string ⟨#[]⟩, .string ⟨#[]⟩, .int .i64 0] rfl 35 _ G7.out.rb rfl (by simp [Value.oneCell']) (by kernel_rfl) ?_; intro w9 hb9 ho9 _; obtain ⟨y0, y1, y2, y3⟩ := hb9.four; have O9 := Lib.hid ho9; clear hb9 ho9)
        refine bodyPost_ret (v := .tuple #[.agg #[.string ⟨#[]⟩, .string ⟨#[]⟩, .string ⟨#[]⟩, .int .i64 0], .bool false]) (by simp [results, Tryd.results36, go_sem, y0, y1, y2, y3]) rfl ⟨zs, false, NO.out, rfl, ?_⟩
        exact G7.out.only.trans O9.out (fun j hj hl => absurd hl (by have : j = w.heap.size + 1 := hj; omega))
    · have YES := Lib.hid (ofR_yes hb)
      have hy := ofB_iff.1 hb
      have he2 := back_err hy
      rw [HRD.out] at he2
      rw [HRD.out, X.out] at hy
      subst hy
      have e0 : (r2.err != 0) = false := by simpa using he2
      clear hb he2
      have hne : ∀ V, (binOp .neq 24 (.agg #[.string e.key, .int .i64 e.time, .int .u16 e.org, .string e.val, .int .i64 e.til]) (.agg #[.string e.key, .int .i64 e.time, .int .u16 e.org, .string e.val, .int .i64 e.til])).run Tryd.prog V = .ok (.bool false) V := fun V => by rw [ne_ent e e V, same_self]; rfl
      have hgd := guard_ent
      go_wp2_with (refine wpList_store_whole rfl rfl 35 (.tmp 2) (.tmp 72) rfl (w.heap.size + 1) rfl #[.string kr, .string kk, .string e.val, .int .i64 e.time] rfl 35 _ G7.out.rb rfl (by simp [Value.oneCell']) (by kernel_rfl) ?_; intro w9 hb9 ho9 _; obtain ⟨y0, y1, y2, y3⟩ := hb9.four; have O9 := Lib.hid ho9; clear hb9 ho9)
      refine bodyPost_ret (v := .tuple #[.agg #[.string (⟨kr, kk, e.val, e.time⟩ : Snd).rcv, .string (⟨kr, kk, e.val, e.time⟩ : Snd).key, .string (⟨kr, kk, e.val, e.time⟩ : Snd).rev, .int .i64 (⟨kr, kk, e.val, e.time⟩ : Snd).at_], .bool true]) (by simp [results, Tryd.results36, go_sem, y0, y1, y2, y3]) rfl ⟨(⟨kr, kk, e.val, e.time⟩ : Snd), true, (by rw [YES.out, HRD.out]), rfl, ?_⟩
      exact G7.out.only.trans O9.out (fun j hj hl => absurd hl (by have : j = w.heap.size + 1 := hj; omega))
end
theorem ref_of (e : Ent) (hk : e.key.size ≤ 140737488355000) (hv : e.val.size ≤ 9223372036854775807) (ht0 : -9223372036854775808 ≤ e.time) (ht1 : e.time ≤ 9223372036854775807) (hu0 : -9223372036854775808 ≤ e.til) (hu1 : e.til ≤ 9223372036854775807) (w : World) : Calls Tryd.prog 36 #[.agg #[.string e.key, .int .i64 e.time, .int .u16 e.org, .string e.val, .int .i64 e.til]] w (OfPost e w) := by
  by_cases h : 1 ≤ e.key.size
  · exact rof_read e w hk hv ht0 ht1 hu0 hu1 h
  · refine rof_nil e w (by omega) ?_
    cases hb : ofB e
    · rfl
    · obtain ⟨t, ht⟩ := ofB_key hb
      have e2 : e.key.data.toList.length = e.key.size := rfl
      rw [ht] at e2
      simp at e2
      omega
end Go.Proofs.YtgclhkknkppmbaaDoor
