/- Layer 7: awake. -/
import Derived.Test.YtokgignmdgejoaaDoorAlF
namespace Go.Proofs.YtokgignmdgejoaaDoor
open Go.RowKit Go.Lib
set_option linter.unusedVariables false
set_option linter.unusedSimpArgs false
set_option maxRecDepth 100000
attribute [local go_sem ↓] Go.wp_at_zero Go.wp_at_succ

/-- None, or one of these labels. -/
def One (l : List Pr) (L : List Al) : Prop := L = [] ∨ ∃ o : Al, L = [o] ∧ o.kb = lkey l
theorem cget_one {k : List UInt8} {o : Al} (h : o.kb = k) : cget k [o] = some o := by
  unfold cget
  simp [h]
theorem ast_le (L : List Al) (l : List Pr) (st en : Int) : ast L l st en ≤ st := by
  unfold ast
  split
  · split
    · split <;> omega
    · omega
  · omega
theorem put_one {g b : Nat} {L : List Al} {l : List Pr} {st en : Int} {w w' : World} {e : Ending} (h : APut g b L l st en w e w') (hl : lcheck l = 0) (h1 : 1 ≤ l.length) (ht : 0 ≤ st ∧ st < en ∧ en ≤ 1099511627776) (hL : One l L) :
    e = .returned (.int .i64 0) ∧ (∃ n : Al, AlAt w' g b [n] ∧ n.kb = lkey l ∧ n.st = ast L l st en ∧ n.en = en) ∧ Only (fun k => k = b) w w' := by
  obtain ⟨he, ⟨L', hL', _, h2⟩, ho⟩ := h
  have hll : L.length ≤ 1 := by
    rcases hL with rfl | ⟨o, rfl, _⟩ <;> simp
  have hac : acheck l st en = 0 := by unfold acheck; rw [if_neg (by rw [hl]; decide), if_neg (by omega), if_neg (by omega)]
  have hae : aerr L l st en = 0 := by unfold aerr; rw [hac, if_neg (by decide), if_neg (fun h => by have := h.2; omega)]
  obtain ⟨blk, cap, rfl, _⟩ := h2 hae
  have hk : (⟨⟨(lkey l).toArray⟩, l, blk, cap, ast L l st en, en⟩ : Al).kb = lkey l := by unfold Al.kb; simp
  have hc : cput ⟨⟨(lkey l).toArray⟩, l, blk, cap, ast L l st en, en⟩ L = [⟨⟨(lkey l).toArray⟩, l, blk, cap, ast L l st en, en⟩] := by
    rcases hL with rfl | ⟨o, rfl, ho⟩
    · rfl
    · unfold cput
      rw [hk]
      simp [ho, cins]
  rw [hc] at hL'
  exact ⟨by rw [he, hae], ⟨_, hL', hk, rfl, rfl⟩, ho⟩
/-- The first alert that was told. -/
theorem WhichAns.first {w w' : World} {m : Al} {e : Ending} (h : WhichAns w [m] e w') : ∃ gA c, e = .returned (.slice (some ⟨gA, 0, none⟩) 1 c) ∧ w'.cell? ⟨gA, 1, none⟩ = some (.int .i64 m.st) ∧ w'.cell? ⟨gA, 2, none⟩ = some (.int .i64 m.en) ∧ gA < w'.heap.size := by
  obtain ⟨A, c, N, rfl, hl, ht, hr, _⟩ := h
  have hs := hr.src
  obtain ⟨_, A', cap, hv, k1, k2, k3⟩ := hr
  injection hv with e1 e2 e3
  subst e1 e3
  simp only [List.length_cons, List.length_nil] at k1 hs hl
  obtain ⟨ad, hA, _, hb, hc⟩ := hs.2 (by omega)
  match N, hl with
  | [n], _ =>
    obtain ⟨_, t2, t3, _⟩ := ht 0 m n rfl rfl
    rcases k3 with k3 | ⟨gA, cur, hA2, _⟩
    · omega
    · rw [hA] at hA2
      injection hA2 with hA2
      subst hA2
      refine ⟨gA, c, by rw [hA]; rfl, ?_, ?_, hb⟩
      · have := hc 1 _ rfl
        rw [add_plain'] at this
        rw [← t2]
        exact this
      · have := hc 2 _ rfl
        rw [add_plain'] at this
        rw [← t3]
        exact this
theorem WhichAns.none {w w' : World} {e : Ending} (h : WhichAns w [] e w') : ∃ A c, e = .returned (.slice A 0 c) := by
  obtain ⟨A, c, N, rfl, _⟩ := h
  exact ⟨A, c, rfl⟩
theorem lc1 : lcheck (onel ⟨#[49]⟩) = 0 := by rfl
theorem lcx : lcheck (onel ⟨#[120]⟩) = 0 := by rfl
set_option maxHeartbeats 8000000 in
theorem awake_run (w : World) (ht : Tab w) : Calls Tryd.prog 14 #[] w fun e w' => e = .returned (.bool true) ∧ Only Noth w w' := by
  have T := Lib.hid ht
  clear ht
  go_enter Tryd.func14, Tryd.ntmps14
  go_wp2_with fail
  refine (new_al w).mono ?_
  rintro e w1 ⟨⟨g, b, rfl, hal, hg, hb⟩, ho⟩
  have HB := Lib.hid hb
  have M1 := Lib.hid hal
  have O1 := Lib.hid ho
  have TF := Lib.hid (show ∀ W, Only Noth w W → Tab W from fun W h => T.out.noth h)
  clear hal hg hb ho
  go_wp2_with fail
  refine (one_run ⟨#[49]⟩ 5 10 (by decide) w1).mono ?_
  rintro e w2 ⟨⟨b1, rfl, hps⟩, ho⟩
  have P2 := Lib.hid hps
  have O2 := Lib.hid (O1.out.tr ho)
  have M2 := Lib.hid (M1.out.noth ho)
  clear hps ho
  go_wp2_with fail
  refine (aput_run g b [] (onel ⟨#[49]⟩) 5 10 (some ⟨b1, 0, none⟩) 1 _ w2 M2.out P2.out (TF.out _ O2.out)).mono ?_
  intro e w3 hput
  obtain ⟨rfl, ⟨n1, hal, hk1, hs1, he1⟩, ho⟩ := put_one hput lc1 (by decide) (by decide) (.inl rfl)
  have M3 := Lib.hid hal
  have K1 := Lib.hid hk1
  have S1 := Lib.hid (show n1.st = 5 from hs1)
  have E1 := Lib.hid he1
  have O3 := Lib.hid (show Only Noth w w3 from O2.out.trans ho (fun j hj hl => by have hj : j = b := hj; have := HB.out; omega))
  clear hput hal hk1 hs1 he1 ho
  go_wp2_with fail
  refine (one_run ⟨#[49]⟩ 8 20 (by decide) w3).mono ?_
  rintro e w4 ⟨⟨b2, rfl, hps⟩, ho⟩
  have P4 := Lib.hid hps
  have O4 := Lib.hid (O3.out.tr ho)
  have M4 := Lib.hid (M3.out.noth ho)
  clear hps ho
  go_wp2_with fail
  refine (aput_run g b [n1] (onel ⟨#[49]⟩) 8 20 (some ⟨b2, 0, none⟩) 1 _ w4 M4.out P4.out (TF.out _ O4.out)).mono ?_
  intro e w5 hput
  obtain ⟨rfl, ⟨n2, hal, hk2, hs2, he2⟩, ho⟩ := put_one hput lc1 (by decide) (by decide) (.inr ⟨n1, rfl, K1.out⟩)
  have M5 := Lib.hid hal
  have S2 := Lib.hid (show n2.st = 5 by rw [hs2]; unfold ast; rw [cget_one K1.out]; simp only [S1.out, E1.out]; decide)
  have E2 := Lib.hid he2
  have O5 := Lib.hid (show Only Noth w w5 from O4.out.trans ho (fun j hj hl => by have hj : j = b := hj; have := HB.out; omega))
  clear hput hal hk2 hs2 he2 ho
  go_wp2_with fail
  refine (aput_run g b [n2] [] 0 1 none 0 (fun _ => True) w5 M5.out ⟨fun h => absurd h (by decide), by simp, Nat.le_refl _, by decide⟩ (TF.out _ O5.out)).mono ?_
  rintro e w6 ⟨rfl, ⟨L', hal, hsame, _⟩, ho⟩
  have hae : aerr [n2] [] 0 1 = 6 := by rfl
  rw [hae] at hsame ⊢
  have hL' := hsame (by decide)
  subst hL'
  have M6 := Lib.hid hal
  have O6 := Lib.hid (show Only Noth w w6 from O5.out.trans ho (fun j hj hl => by have hj : j = b := hj; have := HB.out; omega))
  clear hal hsame ho hae
  go_wp2_with fail
  refine (firing_run g b [n2] 19 w6 M6.out).mono ?_
  rintro e w7 ⟨hw, ho⟩
  rw [show [n2].filter (fun x => x.fires 19) = [n2] by simp [Al.fires, S2.out, E2.out]] at hw
  obtain ⟨gA, cA, rfl, x1, x2, hgA⟩ := hw.first
  rw [S2.out] at x1
  rw [E2.out] at x2
  have O7 := Lib.hid (O6.out.tr ho)
  have M7 := Lib.hid (M6.out.noth ho)
  clear hw ho
  go_wp2_with fail
  refine (firing_run g b [n2] 20 w7 M7.out).mono ?_
  rintro e w8 ⟨hw, ho⟩
  rw [show [n2].filter (fun x => x.fires 20) = [] by simp [Al.fires, S2.out, E2.out]] at hw
  obtain ⟨A8, c8, rfl⟩ := hw.none
  have O8 := Lib.hid (O7.out.tr ho)
  clear hw ho
  go_wp2
  go_ret
  exact ⟨rfl, O8.out⟩
end Go.Proofs.YtokgignmdgejoaaDoor
