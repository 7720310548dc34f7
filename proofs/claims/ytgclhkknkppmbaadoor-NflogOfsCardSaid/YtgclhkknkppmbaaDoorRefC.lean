/- Counts and fires, as the document has them. -/
import Derived.Test.YtgclhkknkppmbaaDoorRefT
import Derived.Test.YtgclhkknkppmbaaDoorCnt
namespace Go.Proofs.YtgclhkknkppmbaaDoor
open Go.RowKit Go.Lib
set_option linter.unusedVariables false
set_option maxRecDepth 100000
attribute [local go_sem ↓] Go.wp_at_zero Go.wp_at_succ

theorem noByte_box (A : Option Addr) (n c : Nat) (e : Int) : NoByte #[.slice A n c, .int .i64 e] := noByte_rd _ (fun n h => by cases h) _
/-- A box that holds a document's reader. -/
structure CBox (w W : World) (xb : Nat) (A : Option Addr) (c : Nat) (r : Rd) : Prop where
  box : Hld W xb 83 #[.slice A r.b.length c, .int .i64 r.err]
  rv : Rv W (.agg #[.slice A r.b.length c, .int .i64 r.err]) r
  only : Only Noth w W
  ge : w.heap.size ≤ xb
theorem CBox.put {w W W1 W2 : World} {xb : Nat} {A A' : Option Addr} {c c' : Nat} {r r' : Rd} (h : CBox w W xb A c r) (h1 : Only Noth W W1) (hv : Rv W1 (.agg #[.slice A' r'.b.length c', .int .i64 r'.err]) r')
    (hb : Hld W2 xb 83 #[.slice A' r'.b.length c', .int .i64 r'.err]) (h2 : Only (fun k => k = xb) W1 W2) : CBox w W2 xb A' c' r' := by
  have b1 := h.box.only h1 (fun h => h)
  obtain ⟨A2, c2, e2, hp, hs⟩ := hv
  exact ⟨hb, ⟨A2, c2, e2, hp.off b1 (noByte_box _ _ _ _) h2, hs⟩, (h.only.tr h1).trans h2 (fun j hj hl => by have : j = xb := hj; have := h.ge; omega), h.ge⟩
/-- At the loop's head. -/
def RCnt (w : World) (l : List UInt8) (xb gh : Nat) (u5 u6 : Value) (W : World) : Prop :=
  ∃ (r : Rd) (A : Option Addr) (c : Nat) (f s : Int), CBox w W xb A c r ∧ u5 = .int .i64 f ∧ u6 = .int .i64 s ∧ cntF l.length (r.b.length + 1) r f s = counts l ∧ 0 ≤ f ∧ 0 ≤ s ∧ f + s + r.b.length ≤ l.length ∧ gh = r.b.length
theorem rb_v (v : Value) (r r' : Rd) (d : UInt8) (hr : r.byte d = r') (w : World) (h : Rv w v r) : Calls Tryd.prog 56 #[v, .int .u8 d.toNat] w fun e w' => ∃ A c, e = .returned (.agg #[.slice A r'.b.length c, .int .i64 r'.err]) ∧ Rv w' (.agg #[.slice A r'.b.length c, .int .i64 r'.err]) r' ∧ Only Noth w w' := by
  subst hr
  refine (ref_byte v r w h d).mono ?_
  rintro e w' ⟨x, rfl, hx, ho⟩
  obtain ⟨A, c, rfl, -, -⟩ := id hx
  exact ⟨A, c, rfl, hx, ho⟩
theorem ri_v (v : Value) (r r' : Rd) (n : Int) (hr : r.int = (r', n)) (w : World) (h : Rv w v r) : Calls Tryd.prog 76 #[v] w fun e w' => ∃ A c, e = .returned (.tuple #[.agg #[.slice A r'.b.length c, .int .i64 r'.err], .int .i64 n]) ∧ Rv w' (.agg #[.slice A r'.b.length c, .int .i64 r'.err]) r' ∧ Only Noth w w' := by
  refine (ref_rint v r w h).mono ?_
  rw [hr]
  rintro e w' ⟨x, rfl, hx, ho⟩
  obtain ⟨A, c, rfl, -, -⟩ := id hx
  exact ⟨A, c, rfl, hx, ho⟩
theorem rt_v (v : Value) (r r' : Rd) (m : Int) (k : ByteArray) (hr : r.text m = (r', k.data.toList)) (w : World) (h : Rv w v r) : Calls Tryd.prog 57 #[v, .int .i64 m] w fun e w' => ∃ A c, e = .returned (.tuple #[.agg #[.slice A r'.b.length c, .int .i64 r'.err], .string k]) ∧ Rv w' (.agg #[.slice A r'.b.length c, .int .i64 r'.err]) r' ∧ Only Noth w w' := by
  refine (ref_rtext v r w h m).mono ?_
  rw [hr]
  rintro e w' ⟨x, rfl, hx, ho⟩
  obtain ⟨A, c, rfl, -, -⟩ := id hx
  exact ⟨A, c, rfl, hx, ho⟩
theorem pair_of {r : Rd} {m : Int} : ∃ (x : Rd) (k : ByteArray), r.text m = (x, k.data.toList) := ⟨(r.text m).1, ⟨(r.text m).2.toArray⟩, rfl⟩

set_option maxHeartbeats 8000000 in
theorem ref_counts (s : ByteArray) (hs : s.size ≤ 140737488355000) (w : World) :
    Calls Tryd.prog 63 #[.string s] w fun e w' => e = .returned (.tuple #[.int .i64 (counts s.data.toList).1, .int .i64 (counts s.data.toList).2]) ∧ Only Noth w w' := by
  obtain ⟨A, c, W, hcv, hp, ho⟩ := conv_bytes s (by omega) w
  have RV := Lib.hid (show Rv W (.agg #[.slice A (⟨s.data.toList, 0⟩ : Rd).b.length c, .int .i64 (⟨s.data.toList, 0⟩ : Rd).err]) ⟨s.data.toList, 0⟩ from ⟨A, c, rfl, hp, Rd.sane_mk _⟩)
  have HO := Lib.hid ho
  have es : s.data.toList.length = s.size := rfl
  have ES := Lib.hid es
  have hi64 : (s.size : Int) ≤ 9223372036854775807 := by omega
  obtain ⟨X0, hX0⟩ : ∃ X, Rd.byte ⟨s.data.toList, 0⟩ 108 = X := ⟨_, rfl⟩
  have HX0 := Lib.hid hX0
  clear hp ho es hX0
  go_enter Tryd.func63, Tryd.ntmps63
  go_wp2_with fail
  refine (rb_v _ _ X0 108 HX0.out _ RV.out).mono ?_
  rintro e w1 ⟨A1, c1, rfl, hx, ho⟩
  have O1 := Lib.hid (HO.out.tr ho)
  have X1 := Lib.hid hx
  obtain ⟨xb, hxb⟩ : ∃ x, w1.heap.size = x := ⟨_, rfl⟩
  have HXB := Lib.hid hxb
  clear hx ho
  go_wp2_with fail
  have B0 := Lib.hid (show CBox w (w1.alloc (.cells #[.slice A1 X0.b.length c1, .int .i64 X0.err] 83)) xb A1 c1 X0 from
    ⟨by rw [← HXB.out]; exact Hld.new _ _ _, X1.out.noth ((Only.refl _ _).alloc _), O1.out.alloc _, by rw [← HXB.out]; exact O1.out.size⟩)
  clear hxb
  go_loopg [5, 6, 7] X0.b.length (fun gh u5 u6 u7 W => RCnt w s.data.toList xb gh u5 u6 W)
  case atStart =>
    have hb := byte_len ⟨s.data.toList, 0⟩ 108
    rw [HX0.out] at hb
    refine ⟨X0, A1, c1, 0, 0, B0.out, rfl, rfl, ?_, by omega, by omega, by simpa using hb, rfl⟩
    rw [← HX0.out]
    exact cntF_fuel _ _ _ _ _ _ (Nat.lt_succ_self _) (by rw [HX0.out]; simpa using Nat.lt_succ_of_le hb)
  case round =>
    obtain ⟨r, A, c, f, z, hb, rfl, rfl, hc, hf, hz, hsum, hgh⟩ := hrel
    have BX := Lib.hid hb
    have HC := Lib.hid hc
    have GH := Lib.hid hgh
    obtain ⟨y0, y1⟩ := hb.box.two
    have hlen : f + z + r.b.length ≤ s.size := by have := ES.out; omega
    clear hb hc hsum hgh B0 X1 O1
    cases hm : r.more
    · have HM := Lib.hid hm
      clear hm
      obtain ⟨Y, hY⟩ : ∃ Y, r.byte 101 = Y := ⟨_, rfl⟩
      have HY := Lib.hid hY
      have hcc := HC.out
      rw [show cntF s.data.toList.length (r.b.length + 1) r f z = if Y.err ≠ 0 ∨ 0 < Y.b.length then (0, 0) else (f, z) by simp only [cntF]; rw [HM.out, ← hY]; simp] at hcc
      have HCC := Lib.hid hcc
      have hyl : Y.b.length ≤ 9223372036854775807 := by have := byte_len r 101; rw [hY] at this; omega
      clear hY hcc
      go_wp2_with fail
      refine (ref_more _ _ _ BX.out.rv).mono ?_
      rintro e w7 ⟨rfl, ho⟩
      rw [HM.out]
      have BX := Lib.hid (show CBox w w7 xb A c r from ⟨BX.out.box.only ho (fun h => h), BX.out.rv.noth ho, BX.out.only.tr ho, BX.out.ge⟩)
      clear y0 y1 ho
      obtain ⟨y0, y1⟩ := BX.out.box.two
      go_wp2_with fail
      refine (rb_v _ _ Y 101 HY.out _ BX.out.rv).mono ?_
      rintro e w8 ⟨A2, c2, rfl, hx, ho⟩
      have HO2 := Lib.hid ho
      have HX2 := Lib.hid hx
      clear hx ho
      obtain ⟨yb, ye⟩ := Y
      simp only at HCC hyl
      by_cases he1 : ye = 0
      · subst he1
        cases yb with
        | nil =>
          have HF := Lib.hid (show (f, z) = counts s.data.toList by rw [← HCC.out, if_neg (by simp)])
          clear y0 y1
          go_wp2_with (refine wpList_store_whole rfl rfl 83 (.tmp 4) (.tmp 46) rfl xb rfl #[.slice A2 (⟨[], 0⟩ : Rd).b.length c2, .int .i64 (⟨[], 0⟩ : Rd).err] rfl 83 _ (BX.out.box.only HO2.out (fun h => h)) rfl (by simp [Value.oneCell']) (by kernel_rfl) ?_; intro w9 hb9 ho9 _; have BX := Lib.hid (BX.out.put HO2.out HX2.out hb9 ho9); obtain ⟨y0, y1⟩ := hb9.two; clear hb9 ho9 HO2 HX2)
          go_ret2
          exact ⟨cnt_ret HF.out, BX.out.only⟩
        | cons y0' yt =>
          have HF := Lib.hid (show (0, 0) = counts s.data.toList by rw [← HCC.out, if_pos (by simp)])
          have hyt : yt.length ≤ 9223372036854775000 := by have := byte_len r 101; rw [HY.out] at this; simp only [List.length_cons] at this; omega
          clear hyl
          clear y0 y1
          go_wp2_with (refine wpList_store_whole rfl rfl 83 (.tmp 4) (.tmp 46) rfl xb rfl #[.slice A2 (⟨y0' :: yt, 0⟩ : Rd).b.length c2, .int .i64 (⟨y0' :: yt, 0⟩ : Rd).err] rfl 83 _ (BX.out.box.only HO2.out (fun h => h)) rfl (by simp [Value.oneCell']) (by kernel_rfl) ?_; intro w9 hb9 ho9 _; have BX := Lib.hid (BX.out.put HO2.out HX2.out hb9 ho9); obtain ⟨y0, y1⟩ := hb9.two; clear hb9 ho9 HO2 HX2)
          go_ret2
          exact ⟨cnt_ret HF.out, BX.out.only⟩
      · have e1 : (ye != 0) = true := by simpa using he1
        have HF := Lib.hid (show (0, 0) = counts s.data.toList by rw [← HCC.out, if_pos (.inl he1)])
        clear he1
        clear y0 y1
        go_wp2_with (refine wpList_store_whole rfl rfl 83 (.tmp 4) (.tmp 46) rfl xb rfl #[.slice A2 (⟨yb, ye⟩ : Rd).b.length c2, .int .i64 (⟨yb, ye⟩ : Rd).err] rfl 83 _ (BX.out.box.only HO2.out (fun h => h)) rfl (by simp [Value.oneCell']) (by kernel_rfl) ?_; intro w9 hb9 ho9 _; have BX := Lib.hid (BX.out.put HO2.out HX2.out hb9 ho9); obtain ⟨y0, y1⟩ := hb9.two; clear hb9 ho9 HO2 HX2)
        go_ret2
        exact ⟨cnt_ret HF.out, BX.out.only⟩
    · have HM := Lib.hid hm
      clear hm
      obtain ⟨T1, k1, ht1⟩ := pair_of (r := r) (m := s.size)
      obtain ⟨X, n, hxn⟩ : ∃ X n, T1.int = (X, n) := ⟨_, _, rfl⟩
      have HT1 := Lib.hid ht1
      have HXN := Lib.hid hxn
      have hst : cstep s.data.toList.length r = (X, n) := by unfold cstep; rw [show (s.data.toList.length : Int) = s.size by have := ES.out; omega, ht1]; exact hxn
      have HST := Lib.hid hst
      have hcc := HC.out
      rw [show cntF s.data.toList.length (r.b.length + 1) r f z = (if X.err ≠ 0 ∨ n < 0 ∨ 1 < n then (0, 0) else if n = 1 then cntF s.data.toList.length r.b.length X (f + 1) z else cntF s.data.toList.length r.b.length X f (z + 1)) by simp only [cntF]; rw [HM.out, hst]; simp] at hcc
      have HCC := Lib.hid hcc
      clear ht1 hxn hst hcc
      go_wp2_with fail
      refine (ref_more _ _ _ BX.out.rv).mono ?_
      rintro e w7 ⟨rfl, ho⟩
      rw [HM.out]
      have BX := Lib.hid (show CBox w w7 xb A c r from ⟨BX.out.box.only ho (fun h => h), BX.out.rv.noth ho, BX.out.only.tr ho, BX.out.ge⟩)
      clear y0 y1 ho
      obtain ⟨y0, y1⟩ := BX.out.box.two
      go_wp2_with fail
      refine (rt_v _ _ T1 _ k1 HT1.out _ BX.out.rv).mono ?_
      rintro e w8 ⟨A2, c2, rfl, hx, ho⟩
      have HO2 := Lib.hid ho
      have HX2 := Lib.hid hx
      clear hx ho
      clear y0 y1
      go_wp2_with (refine wpList_store_whole rfl rfl 83 (.tmp 4) (.tmp 19) rfl xb rfl #[.slice A2 T1.b.length c2, .int .i64 T1.err] rfl 83 _ (BX.out.box.only HO2.out (fun h => h)) rfl (by simp [Value.oneCell']) (by kernel_rfl) ?_; intro w9 hb9 ho9 _; have BX := Lib.hid (BX.out.put HO2.out HX2.out hb9 ho9); obtain ⟨y0, y1⟩ := hb9.two; clear hb9 ho9 HO2 HX2)
      refine (ri_v _ _ X n HXN.out _ BX.out.rv).mono ?_
      rintro e w8 ⟨A2, c2, rfl, hx, ho⟩
      have HO2 := Lib.hid ho
      have HX2 := Lib.hid hx
      clear hx ho
      by_cases he1 : X.err = 0
      · have e1 : (X.err != 0) = false := by simpa using he1
        have HE := Lib.hid he1
        clear he1
        by_cases hn0 : n = 0
        · have hX2 : X.b.length < r.b.length := by have := cstep_less (len := s.data.toList.length) (r := r) (by rw [HST.out]; exact HE.out); rw [HST.out] at this; exact this
          have hif := HCC.out
          rw [if_neg (by rintro (h | h | h); exact h HE.out; omega; omega), if_neg (by omega), cntF_fuel _ _ (X.b.length + 1) _ _ _ hX2 (Nat.lt_succ_self _)] at hif
          have HIF := Lib.hid hif
          clear hif
          subst hn0
          clear y0 y1
          go_wp2_with (refine wpList_store_whole rfl rfl 83 (.tmp 4) (.tmp 24) rfl xb rfl #[.slice A2 X.b.length c2, .int .i64 X.err] rfl 83 _ (BX.out.box.only HO2.out (fun h => h)) rfl (by simp [Value.oneCell']) (by kernel_rfl) ?_; intro w9 hb9 ho9 _; have BX := Lib.hid (BX.out.put HO2.out HX2.out hb9 ho9); obtain ⟨y0, y1⟩ := hb9.two; clear hb9 ho9 HO2 HX2)
          go_roundg X.b.length
          case rel => exact ⟨X, A2, c2, f, z + 1, BX.out, rfl, rfl, HIF.out, hf, by omega, by have := ES.out; omega, rfl⟩
          case measure => have := GH.out; omega
        · have g0 : (n != 0) = true := by simpa using hn0
          by_cases hn1 : n = 1
          · have hX2 : X.b.length < r.b.length := by have := cstep_less (len := s.data.toList.length) (r := r) (by rw [HST.out]; exact HE.out); rw [HST.out] at this; exact this
            have hif := HCC.out
            rw [if_neg (by rintro (h | h | h); exact h HE.out; omega; omega), if_pos hn1, cntF_fuel _ _ (X.b.length + 1) _ _ _ hX2 (Nat.lt_succ_self _)] at hif
            have HIF := Lib.hid hif
            clear hif hn0 g0
            subst hn1
            clear y0 y1
            go_wp2_with (refine wpList_store_whole rfl rfl 83 (.tmp 4) (.tmp 24) rfl xb rfl #[.slice A2 X.b.length c2, .int .i64 X.err] rfl 83 _ (BX.out.box.only HO2.out (fun h => h)) rfl (by simp [Value.oneCell']) (by kernel_rfl) ?_; intro w9 hb9 ho9 _; have BX := Lib.hid (BX.out.put HO2.out HX2.out hb9 ho9); obtain ⟨y0, y1⟩ := hb9.two; clear hb9 ho9 HO2 HX2)
            go_roundg X.b.length
            case rel => exact ⟨X, A2, c2, f + 1, z, BX.out, rfl, rfl, HIF.out, by omega, hz, by have := ES.out; omega, rfl⟩
            case measure => have := GH.out; omega
          · have g1 : (n != 1) = true := by simpa using hn1
            have HF := Lib.hid (show (0, 0) = counts s.data.toList by rw [← HCC.out, if_pos (by omega)])
            clear hn0 hn1
            clear y0 y1
            go_wp2_with (refine wpList_store_whole rfl rfl 83 (.tmp 4) (.tmp 24) rfl xb rfl #[.slice A2 X.b.length c2, .int .i64 X.err] rfl 83 _ (BX.out.box.only HO2.out (fun h => h)) rfl (by simp [Value.oneCell']) (by kernel_rfl) ?_; intro w9 hb9 ho9 _; have BX := Lib.hid (BX.out.put HO2.out HX2.out hb9 ho9); obtain ⟨y0, y1⟩ := hb9.two; clear hb9 ho9 HO2 HX2)
            go_ret2
            exact ⟨cnt_ret HF.out, BX.out.only⟩
      · have e1 : (X.err != 0) = true := by simpa using he1
        have HF := Lib.hid (show (0, 0) = counts s.data.toList by rw [← HCC.out, if_pos (.inl he1)])
        clear he1
        clear y0 y1
        go_wp2_with (refine wpList_store_whole rfl rfl 83 (.tmp 4) (.tmp 24) rfl xb rfl #[.slice A2 X.b.length c2, .int .i64 X.err] rfl 83 _ (BX.out.box.only HO2.out (fun h => h)) rfl (by simp [Value.oneCell']) (by kernel_rfl) ?_; intro w9 hb9 ho9 _; have BX := Lib.hid (BX.out.put HO2.out HX2.out hb9 ho9); obtain ⟨y0, y1⟩ := hb9.two; clear hb9 ho9 HO2 HX2)
        go_ret2
        exact ⟨cnt_ret HF.out, BX.out.only⟩
end Go.Proofs.YtgclhkknkppmbaaDoor
