/- group.Counts: plainly, and in memory; nflog's small functions. -/
import Derived.Test.YtgclhkknkppmbaaDoorRdrF
import Derived.Test.YtgclhkknkppmbaaDoorCvb
import Derived.Deep.LoopGhost
namespace Go.Proofs.YtgclhkknkppmbaaDoor
open Go.RowKit Go.Lib
set_option linter.unusedVariables false
set_option maxRecDepth 100000
attribute [local go_sem ↓] Go.wp_at_zero Go.wp_at_succ

def cstep (len : Int) (r : Rd) : Rd × Int := (r.text len).1.int
def cntF (len : Int) : Nat → Rd → Int → Int → Int × Int
  | 0, _, _, _ => (0, 0)
  | k + 1, r, f, s =>
    if r.more = true then
      (if (cstep len r).1.err ≠ 0 ∨ (cstep len r).2 < 0 ∨ 1 < (cstep len r).2 then (0, 0)
       else if (cstep len r).2 = 1 then cntF len k (cstep len r).1 (f + 1) s else cntF len k (cstep len r).1 f (s + 1))
    else if (r.byte 101).err ≠ 0 ∨ 0 < (r.byte 101).b.length then (0, 0) else (f, s)
/-- How many fire, and how many do not. -/
def counts (l : List UInt8) : Int × Int := cntF l.length (l.length + 1) (Rd.byte ⟨l, 0⟩ 108) 0 0
theorem cstep_less {len : Int} {r : Rd} (h : (cstep len r).1.err = 0) : (cstep len r).1.b.length < r.b.length := by
  unfold cstep at h ⊢
  obtain ⟨h1, h2, _, _⟩ := Rd.int_back h
  obtain ⟨_, k2, _, _⟩ := Rd.text_back h1
  rw [k2, List.length_append, h2, List.length_append]
  simp only [tText, List.length_append, List.length_cons]
  omega
theorem cntF_fuel (len : Int) (k : Nat) : ∀ (m : Nat) (r : Rd) (f s : Int), r.b.length < k → r.b.length < m → cntF len k r f s = cntF len m r f s := by
  induction k with
  | zero => intro m r f s h; omega
  | succ k ih =>
    intro m r f s h1 h2
    obtain ⟨m, rfl⟩ : ∃ n, m = n + 1 := ⟨m - 1, by omega⟩
    simp only [cntF]
    split
    · split
      · rfl
      · rename_i hc
        have he : (cstep len r).1.err = 0 := by
          by_cases h : (cstep len r).1.err = 0
          · exact h
          · exact absurd (.inl h) hc
        have hl := cstep_less he
        rw [ih m _ (f + 1) s (by omega) (by omega), ih m _ f (s + 1) (by omega) (by omega)]
    · rfl
theorem byte_len (r : Rd) (c : UInt8) : (r.byte c).b.length ≤ r.b.length := by
  unfold Rd.byte
  split
  · exact Nat.le_refl _
  · split
    · simp [Rd.stop]
    · split
      · simp [Rd.stop]
      · rename_i hb _; rw [hb]; simp

def CntAt (w : World) (g : Nat) (l : List UInt8) (gh : Nat) (u2 u3 : Value) (wr : World) : Prop :=
  ∃ (r : Rd) (f s : Int), RdAt wr g r ∧ Only (At g) w wr ∧ u2 = .int .i64 f ∧ u3 = .int .i64 s ∧ cntF l.length (r.b.length + 1) r f s = counts l ∧ 0 ≤ f ∧ 0 ≤ s ∧ f + s + r.b.length ≤ l.length ∧ gh = r.b.length
theorem cnt_ret {a b : Int × Int} (h : a = b) : Ending.returned (.tuple #[.int .i64 a.1, .int .i64 a.2]) = .returned (.tuple #[.int .i64 b.1, .int .i64 b.2]) := by rw [h]
theorem Only.new_noth {g : Nat} {a b : World} (h : Only (At g) a b) (hg : a.heap.size ≤ g) : Only Noth a b := h.mono (fun k hk hl => by have : k = g := hk; omega)
theorem group_counts (s : ByteArray) (hs : s.size ≤ 140737488355000) (w : World) (he : Env w) :
    Calls Tryd.prog 29 #[.string s] w fun e w' => e = .returned (.tuple #[.int .i64 (counts s.data.toList).1, .int .i64 (counts s.data.toList).2]) ∧ Only Noth w w' := by
  obtain ⟨A, c, W, hcv, hp, ho⟩ := conv_bytes s (by omega) w
  have HP := Lib.hid hp
  have HO := Lib.hid ho
  have E0 := Lib.hid he
  have E := Lib.hid (he.noth ho)
  have HG := Lib.hid (he.hi (Nat.le_trans ho.size (Nat.le_refl W.heap.size)))
  have es : s.data.toList.length = s.size := rfl
  have HW := Lib.hid (show w.heap.size ≤ W.heap.size from ho.size)
  have ES := Lib.hid es
  have HS := Lib.hid hs
  have hi64 : (s.size : Int) ≤ 9223372036854775807 := by omega
  clear hp ho he es hs
  go_enter Tryd.func29, Tryd.ntmps29
  go_wp2_with fail
  refine (rdr_new A c s.data.toList _ HP.out).mono ?_
  rintro e w1 ⟨rfl, hr, ho⟩
  have HR := Lib.hid hr
  have HO1 := Lib.hid ho
  have E1 := Lib.hid (E.out.noth ho)
  clear hr ho
  go_wp2_with fail
  refine (rdr_open W.heap.size _ _ HR.out).mono ?_
  rintro e w2 ⟨rfl, hr, ho⟩
  have HR2 := Lib.hid hr
  have HO2 := Lib.hid ho
  have E2 := Lib.hid (E1.out.at_ ho HG.out)
  clear hr ho
  go_wp2_with fail
  go_loopg [2, 3] (Rd.byte ⟨s.data.toList, 0⟩ 108).b.length (fun gh u2 u3 wr => CntAt w W.heap.size s.data.toList gh u2 u3 wr)
  case atStart =>
    refine ⟨_, 0, 0, HR2.out, ((Only.at_of (HO.out.tr HO1.out)).at_tr HO2.out), rfl, rfl, ?_, by omega, by omega, ?_, rfl⟩
    · exact cntF_fuel _ _ _ _ _ _ (Nat.lt_succ_self _) (by have := byte_len ⟨s.data.toList, 0⟩ 108; simp only at this; omega)
    · have := byte_len ⟨s.data.toList, 0⟩ 108
      simp only at this
      omega
  case round =>
    obtain ⟨r, f, z, hr, ho, rfl, rfl, hc, hf, hz, hsum, hgh⟩ := hrel
    have HR3 := Lib.hid hr
    have HO3 := Lib.hid ho
    have E3 := Lib.hid (E0.out.at_ ho HG.out)
    have HC := Lib.hid hc
    have GH := Lib.hid hgh
    have hlen : f + z + r.b.length ≤ s.size := by have := ES.out; omega
    clear hr ho hc hsum hgh
    cases hm : r.more
    · have HM := Lib.hid hm
      clear hm
      obtain ⟨Y, hY⟩ : ∃ Y, r.byte 101 = Y := ⟨_, rfl⟩
      have HY := Lib.hid hY
      have hcc := HC.out
      rw [show cntF s.data.toList.length (r.b.length + 1) r f z = if Y.err ≠ 0 ∨ 0 < Y.b.length then (0, 0) else (f, z) by simp only [cntF]; rw [HM.out, ← hY]; simp] at hcc
      have HCC := Lib.hid hcc
      clear hY hcc
      have hyl : Y.b.length ≤ 9223372036854775807 := by have := byte_len r 101; rw [HY.out] at this; omega
      by_cases he1 : Y.err = 0
      · have e1 : (Y.err != 0) = false := by simpa using he1
        have HE := Lib.hid he1
        clear he1
        by_cases hl : 0 < Y.b.length
        · have hl2 : (0 : Int) < Y.b.length := by omega
          have HF := Lib.hid (show (0, 0) = counts s.data.toList by rw [← HCC.out, if_pos (.inr hl)])
          clear hl
          go_wp2_with (first | (go_at_call 50; refine (rdr_more W.heap.size r _ HR3.out).mono ?_; rintro e w3 ⟨rfl, rfl⟩; rw [HM.out]) | (go_at_call 53; refine (rdr_close W.heap.size r _ HR3.out).mono ?_; rintro e w4 ⟨rfl, hr, ho⟩; rw [HY.out] at hr; have HR4 := Lib.hid hr; have HO4 := Lib.hid (HO3.out.at_tr ho); clear hr ho) | (go_at_call 34; refine (rdr_err W.heap.size Y _ HR4.out).mono ?_; rintro e w5 ⟨rfl, rfl⟩) | (go_at_call 33; refine (rdr_left W.heap.size Y _ HR4.out).mono ?_; rintro e w5 ⟨rfl, rfl⟩))
          go_ret2
          exact ⟨cnt_ret HF.out, HO4.out.new_noth HW.out⟩
        · have hl2 : ¬ (0 : Int) < Y.b.length := by omega
          have HF := Lib.hid (show (f, z) = counts s.data.toList by rw [← HCC.out, if_neg (by rintro (h | h); exact h HE.out; exact hl h)])
          clear hl
          go_wp2_with (first | (go_at_call 50; refine (rdr_more W.heap.size r _ HR3.out).mono ?_; rintro e w3 ⟨rfl, rfl⟩; rw [HM.out]) | (go_at_call 53; refine (rdr_close W.heap.size r _ HR3.out).mono ?_; rintro e w4 ⟨rfl, hr, ho⟩; rw [HY.out] at hr; have HR4 := Lib.hid hr; have HO4 := Lib.hid (HO3.out.at_tr ho); clear hr ho) | (go_at_call 34; refine (rdr_err W.heap.size Y _ HR4.out).mono ?_; rintro e w5 ⟨rfl, rfl⟩) | (go_at_call 33; refine (rdr_left W.heap.size Y _ HR4.out).mono ?_; rintro e w5 ⟨rfl, rfl⟩))
          go_ret2
          exact ⟨cnt_ret HF.out, HO4.out.new_noth HW.out⟩
      · have e1 : (Y.err != 0) = true := by simpa using he1
        have HF := Lib.hid (show (0, 0) = counts s.data.toList by rw [← HCC.out, if_pos (.inl he1)])
        clear he1
        go_wp2_with (first | (go_at_call 50; refine (rdr_more W.heap.size r _ HR3.out).mono ?_; rintro e w3 ⟨rfl, rfl⟩; rw [HM.out]) | (go_at_call 53; refine (rdr_close W.heap.size r _ HR3.out).mono ?_; rintro e w4 ⟨rfl, hr, ho⟩; rw [HY.out] at hr; have HR4 := Lib.hid hr; have HO4 := Lib.hid (HO3.out.at_tr ho); clear hr ho) | (go_at_call 34; refine (rdr_err W.heap.size Y _ HR4.out).mono ?_; rintro e w5 ⟨rfl, rfl⟩) | (go_at_call 33; refine (rdr_left W.heap.size Y _ HR4.out).mono ?_; rintro e w5 ⟨rfl, rfl⟩))
        go_ret2
        exact ⟨cnt_ret HF.out, HO4.out.new_noth HW.out⟩
    · have HM := Lib.hid hm
      clear hm
      obtain ⟨n, hn⟩ : ∃ n, (r.text s.size).1.int.2 = n := ⟨_, rfl⟩
      obtain ⟨X, hX⟩ : ∃ X, (r.text s.size).1.int.1 = X := ⟨_, rfl⟩
      have HN := Lib.hid hn
      have HX := Lib.hid hX
      have hst : cstep s.data.toList.length r = (X, n) := by rw [← hX, ← hn]; rfl
      have HST := Lib.hid hst
      have hcc := HC.out
      rw [show cntF s.data.toList.length (r.b.length + 1) r f z = (if X.err ≠ 0 ∨ n < 0 ∨ 1 < n then (0, 0) else if n = 1 then cntF s.data.toList.length r.b.length X (f + 1) z else cntF s.data.toList.length r.b.length X f (z + 1)) by simp only [cntF]; rw [HM.out, hst]; simp] at hcc
      have HCC := Lib.hid hcc
      clear hn hX hst hcc
      by_cases he1 : X.err = 0
      · have e1 : (X.err != 0) = false := by simpa using he1
        have HE := Lib.hid he1
        clear he1
        by_cases hn0 : n < 0
        · have HF := Lib.hid (show (0, 0) = counts s.data.toList by rw [← HCC.out, if_pos (.inr (.inl hn0))])
          go_wp2_with (first | (go_at_call 50; refine (rdr_more W.heap.size r _ HR3.out).mono ?_; rintro e w3 ⟨rfl, rfl⟩; rw [HM.out]) | (go_at_call 51; refine (rdr_text W.heap.size r s.size _ HR3.out E3.out).mono ?_; rintro e w4 ⟨rfl, hr, ho⟩; have HR4 := Lib.hid hr; have HO4 := Lib.hid (HO3.out.at_tr ho); have E4 := Lib.hid (E3.out.at_ ho HG.out); clear hr ho) | (go_at_call 52; refine (rdr_int W.heap.size _ _ HR4.out E4.out HG.out).mono ?_; rintro e w5 ⟨rfl, hr, ho⟩; rw [HN.out]; rw [HX.out] at hr; have HR5 := Lib.hid hr; have HO5 := Lib.hid (HO4.out.at_tr ho); clear hr ho) | (go_at_call 34; refine (rdr_err W.heap.size X _ HR5.out).mono ?_; rintro e w6 ⟨rfl, rfl⟩))
          go_ret2
          exact ⟨cnt_ret HF.out, HO5.out.new_noth HW.out⟩
        · by_cases hn1 : 1 < n
          · have HF := Lib.hid (show (0, 0) = counts s.data.toList by rw [← HCC.out, if_pos (.inr (.inr hn1))])
            have hn2 : ¬ n < 0 := hn0
            have d0 : decide (n < 0) = false := by simpa using hn0
            go_wp2_with (first | (go_at_call 50; refine (rdr_more W.heap.size r _ HR3.out).mono ?_; rintro e w3 ⟨rfl, rfl⟩; rw [HM.out]) | (go_at_call 51; refine (rdr_text W.heap.size r s.size _ HR3.out E3.out).mono ?_; rintro e w4 ⟨rfl, hr, ho⟩; have HR4 := Lib.hid hr; have HO4 := Lib.hid (HO3.out.at_tr ho); have E4 := Lib.hid (E3.out.at_ ho HG.out); clear hr ho) | (go_at_call 52; refine (rdr_int W.heap.size _ _ HR4.out E4.out HG.out).mono ?_; rintro e w5 ⟨rfl, hr, ho⟩; rw [HN.out]; rw [HX.out] at hr; have HR5 := Lib.hid hr; have HO5 := Lib.hid (HO4.out.at_tr ho); clear hr ho) | (go_at_call 34; refine (rdr_err W.heap.size X _ HR5.out).mono ?_; rintro e w6 ⟨rfl, rfl⟩))
            go_ret2
            exact ⟨cnt_ret HF.out, HO5.out.new_noth HW.out⟩
          · have hX2 : X.b.length < r.b.length := by have := cstep_less (len := s.data.toList.length) (r := r) (by rw [HST.out]; exact HE.out); rw [HST.out] at this; exact this
            have d0 : decide (n < 0) = false := by simpa using hn0
            have d1 : decide (1 < n) = false := by simpa using hn1
            have hif := HCC.out
            rw [if_neg (by rintro (h | h | h); exact h HE.out; exact hn0 h; exact hn1 h)] at hif
            by_cases hn2 : n = 1
            · rw [if_pos hn2, cntF_fuel _ _ (X.b.length + 1) _ _ _ hX2 (Nat.lt_succ_self _)] at hif
              have HIF := Lib.hid hif
              have b2 : (n == 1) = true := by simpa using hn2
              clear hif hn2
              go_wp2_with (first | (go_at_call 50; refine (rdr_more W.heap.size r _ HR3.out).mono ?_; rintro e w3 ⟨rfl, rfl⟩; rw [HM.out]) | (go_at_call 51; refine (rdr_text W.heap.size r s.size _ HR3.out E3.out).mono ?_; rintro e w4 ⟨rfl, hr, ho⟩; have HR4 := Lib.hid hr; have HO4 := Lib.hid (HO3.out.at_tr ho); have E4 := Lib.hid (E3.out.at_ ho HG.out); clear hr ho) | (go_at_call 52; refine (rdr_int W.heap.size _ _ HR4.out E4.out HG.out).mono ?_; rintro e w5 ⟨rfl, hr, ho⟩; rw [HN.out]; rw [HX.out] at hr; have HR5 := Lib.hid hr; have HO5 := Lib.hid (HO4.out.at_tr ho); clear hr ho) | (go_at_call 34; refine (rdr_err W.heap.size X _ HR5.out).mono ?_; rintro e w6 ⟨rfl, rfl⟩))
              go_roundg X.b.length
              case rel => exact ⟨X, f + 1, z, HR5.out, HO5.out, rfl, rfl, HIF.out, by omega, hz, by have := ES.out; omega, rfl⟩
              case measure => have := GH.out; omega
            · rw [if_neg hn2, cntF_fuel _ _ (X.b.length + 1) _ _ _ hX2 (Nat.lt_succ_self _)] at hif
              have HIF := Lib.hid hif
              have b2 : (n == 1) = false := by simpa using hn2
              clear hif hn2
              go_wp2_with (first | (go_at_call 50; refine (rdr_more W.heap.size r _ HR3.out).mono ?_; rintro e w3 ⟨rfl, rfl⟩; rw [HM.out]) | (go_at_call 51; refine (rdr_text W.heap.size r s.size _ HR3.out E3.out).mono ?_; rintro e w4 ⟨rfl, hr, ho⟩; have HR4 := Lib.hid hr; have HO4 := Lib.hid (HO3.out.at_tr ho); have E4 := Lib.hid (E3.out.at_ ho HG.out); clear hr ho) | (go_at_call 52; refine (rdr_int W.heap.size _ _ HR4.out E4.out HG.out).mono ?_; rintro e w5 ⟨rfl, hr, ho⟩; rw [HN.out]; rw [HX.out] at hr; have HR5 := Lib.hid hr; have HO5 := Lib.hid (HO4.out.at_tr ho); clear hr ho) | (go_at_call 34; refine (rdr_err W.heap.size X _ HR5.out).mono ?_; rintro e w6 ⟨rfl, rfl⟩))
              go_roundg X.b.length
              case rel => exact ⟨X, f, z + 1, HR5.out, HO5.out, rfl, rfl, HIF.out, hf, by omega, by have := ES.out; omega, rfl⟩
              case measure => have := GH.out; omega
      · have e1 : (X.err != 0) = true := by simpa using he1
        have HF := Lib.hid (show (0, 0) = counts s.data.toList by rw [← HCC.out, if_pos (.inl he1)])
        clear he1
        go_wp2_with (first | (go_at_call 50; refine (rdr_more W.heap.size r _ HR3.out).mono ?_; rintro e w3 ⟨rfl, rfl⟩; rw [HM.out]) | (go_at_call 51; refine (rdr_text W.heap.size r s.size _ HR3.out E3.out).mono ?_; rintro e w4 ⟨rfl, hr, ho⟩; have HR4 := Lib.hid hr; have HO4 := Lib.hid (HO3.out.at_tr ho); have E4 := Lib.hid (E3.out.at_ ho HG.out); clear hr ho) | (go_at_call 52; refine (rdr_int W.heap.size _ _ HR4.out E4.out HG.out).mono ?_; rintro e w5 ⟨rfl, hr, ho⟩; rw [HN.out]; rw [HX.out] at hr; have HR5 := Lib.hid hr; have HO5 := Lib.hid (HO4.out.at_tr ho); clear hr ho) | (go_at_call 34; refine (rdr_err W.heap.size X _ HR5.out).mono ?_; rintro e w6 ⟨rfl, rfl⟩))
        go_ret2
        exact ⟨cnt_ret HF.out, HO5.out.new_noth HW.out⟩
end Go.Proofs.YtgclhkknkppmbaaDoor
