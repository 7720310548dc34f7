/- The walk of FileCuts. -/
import Derived.Test.YtibeblibminjfaaFork
import Derived.Test.YtibeblibminjfaaSafe
namespace Go.Proofs.Ytibeblibminjfaa
open Go.RowKit
set_option linter.unusedVariables false

theorem cut_big (s l : List Int) (sf op : Nat) (n : Int) (h : n < 0 ∨ n > l.length) : (dk s l sf op).cut n = (dk s l sf op, 15) := by
  unfold Dk.cut
  rw [if_neg (by simp [dk]), if_pos (by simp only [dk]; exact h)]

theorem cut_dk (s l : List Int) (sf op n : Nat) (h : n ≤ l.length) : (dk s l sf op).cut n = (dk s (l.take n) (min sf n) (op + 1), 0) := by
  unfold Dk.cut
  rw [if_neg (by simp [dk]), if_neg (by simp only [dk]; omega)]
  rfl

set_option maxHeartbeats 2000000 in
theorem cuts_walk (a0 : Option Addr) (len0 cap0 : Nat) (z0 : List Int) (a1 : Option Addr) (len1 cap1 : Nat) (z1 : List Int) (t : Nat) (w : World) (S : Nat → Prop)
    (h0 : len0 ≤ cap0) (h1 : len1 ≤ cap1) (hm0 : cap0 ≤ 9223372036854775807) (hm1 : cap1 ≤ 9223372036854775807) (ht : t ≤ 65535) (l0 : z0.length = len0) (l1 : z1.length = len1)
    (s0 : Src w S 1 a0 len0 (u8s z0)) (s1 : Src w S 1 a1 len1 (u8s z1)) (hS : ∀ j, S j → j < w.heap.size) :
    Calls Try.prog 5 #[.slice a0 len0 cap0, .slice a1 len1 cap1, .int .u16 (t : Int)] w fun e w' => e = .returned (.bool true) ∧ Below w.heap.size w w' := by
  have HS := Lib.hid hS
  have L0 := Lib.hid l0
  have L1 := Lib.hid l1
  clear hS
  obtain ⟨n0, hn0⟩ : ∃ n0 : Nat, n0 = min len0 1000 := ⟨_, rfl⟩
  obtain ⟨n1, hn1⟩ : ∃ n1 : Nat, n1 = min len1 1000 := ⟨_, rfl⟩
  obtain ⟨n2, hn2⟩ : ∃ n2 : Nat, n2 = t % (n0 + 1) := ⟨_, rfl⟩
  have hmod : ((t : Int) % ((n0 : Int) + 1)) = (n2 : Int) := by rw [hn2]; push_cast; rfl
  have hn2l : n2 ≤ n0 := by have := Nat.mod_lt t (show 0 < n0 + 1 by omega); omega
  have m0 : (if (1000 : Int) < (len0 : Int) then (1000 : Int) else (len0 : Int)) = (n0 : Int) := by split <;> omega
  have m1 : (if (1000 : Int) < (len1 : Int) then (1000 : Int) else (len1 : Int)) = (n1 : Int) := by split <;> omega
  have c0 : n0 ≤ cap0 := by omega
  have c1 : n1 ≤ cap1 := by omega
  have N0 := Lib.hid hn0
  have N1 := Lib.hid hn1
  have N2 := Lib.hid hn2
  have b0 : n0 ≤ 1000 := by omega
  have b1 : n1 ≤ 1000 := by omega
  obtain ⟨x0, hx0⟩ : ∃ x0, x0 = z0.take n0 := ⟨_, rfl⟩
  obtain ⟨x1, hx1⟩ : ∃ x1, x1 = z1.take n1 := ⟨_, rfl⟩
  have t0 : Src w S 1 a0 n0 (u8s x0) := by
    have := s0.take (show n0 ≤ len0 by omega)
    rwa [Nat.mul_one, ← u8s_take, ← hx0] at this
  have t1 : Src w S 1 a1 n1 (u8s x1) := by
    have := s1.take (show n1 ≤ len1 by omega)
    rwa [Nat.mul_one, ← u8s_take, ← hx1] at this
  have e0 : x0.length = n0 := by rw [hx0, List.length_take]; omega
  have e1 : x1.length = n1 := by rw [hx1, List.length_take]; omega
  have T0 := Lib.hid t0
  have T1 := Lib.hid t1
  have E0 := Lib.hid e0
  have E1 := Lib.hid e1
  clear s0 s1 hn0 hn1 hn2 L0 L1 l0 l1 t0 t1 e0 e1 hx0 hx1
  go_enter Try.func5, Try.ntmps5
  go_wp2
  go_region
  go_wp2_with fail
  refine (disk_new 5000 (by omega) _).mono ?_
  rintro e w1 ⟨rfl, hD1, ho1, hz1⟩
  rw [new_dk] at hD1
  have HD1 := Lib.hid hD1
  have HO1 := Lib.hid (show Ours w (fun k => k = w.drew.heap.size) w1 from ⟨ho1.undrew, fun j hj => by subst hj; exact Nat.le_refl _⟩)
  clear hD1 ho1 hz1
  go_wp2_with fail
  refine (append_at a0 x0 n0 cap0 E0.out HD1.out (T0.out.only HO1.out.only (fun _ _ h => h)) (fun j hj hF => by have := HS.out j hj; have := HO1.out.new j hF; omega) (by have := E0.out; simp [dk]; omega) (by simp [dk]) (append_dk _ _ _ _ _ (by have := E0.out; simp; omega))).mono ?_
  rintro e w2 ⟨rfl, hL2⟩
  have HL2 := Lib.hid hL2
  have HO2 := Lib.hid (HO1.out.leaves hL2)
  clear hL2
  go_wp2_with fail
  have h3 := disk_sync HL2.out.1 (by simp [dk])
  rw [sync_dk] at h3
  refine h3.mono ?_
  clear h3
  rintro e w3 ⟨rfl, hL3⟩
  have HL3 := Lib.hid hL3
  have HO3 := Lib.hid (HO2.out.leaves hL3)
  clear hL3
  go_wp2_with fail
  obtain ⟨y0, hy0⟩ : ∃ y0, y0 = x0.take n2 := ⟨_, rfl⟩
  have ey0 : y0.length = n2 := by rw [hy0, List.length_take]; have := E0.out; omega
  have h4 := disk_cut (n2 : Int) HL3.out.1 (by simp [dk])
  rw [cut_dk _ _ _ _ _ (by have := E0.out; simp; omega)] at h4
  rw [show (([] : List Int) ++ x0).take n2 = y0 by rw [hy0]; rfl, show min (([] : List Int) ++ x0).length n2 = n2 by have := E0.out; simp; omega] at h4
  have Y0 := Lib.hid hy0
  have EY := Lib.hid ey0
  clear hy0 ey0
  refine h4.mono ?_
  clear h4
  rintro e w4 ⟨rfl, hL4⟩
  have HL4 := Lib.hid hL4
  have HO4 := Lib.hid (HO3.out.leaves hL4)
  clear hL4
  go_wp2_with fail
  refine (append_at a1 x1 n1 cap1 E1.out HL4.out.1 (T1.out.only HO4.out.only (fun _ _ h => h)) (fun j hj hF => by have := HS.out j hj; have := HO4.out.new j hF; omega) (by have := EY.out; have := E1.out; simp [dk]; omega) (by simp [dk]) (append_dk _ _ _ _ _ (by have := EY.out; have := E1.out; simp; omega))).mono ?_
  rintro e w5 ⟨rfl, hL5⟩
  have HL5 := Lib.hid hL5
  have HO5 := Lib.hid (HO4.out.leaves hL5)
  clear hL5
  go_wp2_with fail
  refine (disk_fork HL5.out.1).mono ?_
  rintro e w6 ⟨rfl, hL6⟩
  have HD6 := Lib.hid (HL5.out.1.only hL6.2 (fun _ _ h => h))
  have HL6 := Lib.hid hL6
  have HO6 := Lib.hid (HO5.out.quiet hL6.2)
  have HFK := Lib.hid (show Ours w (Plus Noth w5 w6) w6 from ⟨HO6.out.only, fun j hj => by
    rcases hj with hj | hj
    · exact hj.elim
    · have := HO5.out.only.size; omega⟩)
  clear hL6
  go_wp2_with fail
  have h7 := disk_crash 0 HL6.out.1
  rw [crash_dk, show (y0 ++ x1).take (n2 + min (max (0 : Int) 0).toNat ((y0 ++ x1).length - n2)) = y0 by rw [show n2 + min (max (0 : Int) 0).toNat ((y0 ++ x1).length - n2) = y0.length by have := EY.out; simp; omega]; exact List.take_left] at h7
  refine h7.mono ?_
  clear h7
  rintro e w7 ⟨rfl, hL7⟩
  have HD7 := Lib.hid (HD6.out.only hL7.2 (fun k hk hk2 => by
    rcases hk2 with hk2 | hk2
    · exact hk2
    · have := HL5.out.1.lt k hk; omega))
  have HL7 := Lib.hid hL7
  have HO7 := Lib.hid (HFK.out.leaves hL7)
  clear hL7
  go_wp2_with fail
  refine (disk_read HL7.out.1).mono ?_
  rintro e w8 ⟨v1, v2, rfl, G1, G2, r1, r2, g1, g2, g3, ho8⟩
  have r1' : Row w8 G1 5 1 v1 0 [] := r1
  have r2' : Row w8 G2 5 1 v2 y0.length (u8s y0) := r2
  obtain ⟨A1, c1', hv1⟩ := r1'.shape
  obtain ⟨A2, c2', hv2⟩ := r2'.shape
  subst hv1
  subst hv2
  have R2 := Lib.hid r2'.src
  have HD8 := Lib.hid (HD7.out.only ho8 (fun _ _ h => h))
  have HO8 := Lib.hid (HO7.out.only.trans ho8 (fun _ h _ => h))
  clear r1 r2 r1' r2' g1 g2 g3 ho8
  go_wp2_with fail
  refine (disk_read HD8.out).mono ?_
  rintro e w9 ⟨v3, v4, rfl, G3, G4, r1, r2, g1, g2, g3, ho9⟩
  obtain ⟨ym, hym⟩ : ∃ ym, ym = y0 ++ x1 := ⟨_, rfl⟩
  have r1' : Row w9 G3 5 1 v3 0 [] := r1
  have r2' : Row w9 G4 5 1 v4 ym.length (u8s ym) := by rw [hym]; exact r2
  obtain ⟨A3, c3', hv3⟩ := r1'.shape
  obtain ⟨A4, c4', hv4⟩ := r2'.shape
  subst hv3
  subst hv4
  have HD9 := Lib.hid (HD8.out.only ho9 (fun _ _ h => h))
  have HO9 := Lib.hid (HO8.out.trans ho9 (fun _ h _ => h))
  have q0 := conv_str c2' ((R2.out.only ho9 (fun _ _ h => h)).drew)
  have q1 := conv_str c4' r2'.src.drew
  have q2 : (convert 22 9 (.slice a0 n2 cap0)).run Try.prog w9.drew = .ok (.string (strOfNums y0)) w9.drew := by
    have h := ((T0.out.only HO9.out (fun _ _ h => h)).drew).take hn2l
    rw [Nat.mul_one, ← u8s_take, ← Y0.out] at h
    exact conv_strN n2 cap0 EY.out h
  have q3 := conv_strN n1 cap1 E1.out ((T1.out.only HO9.out (fun _ _ h => h)).drew)
  have hz0 : (strOfNums y0).size ≤ 1000 := by rw [strOfNums_size, EY.out]; omega
  have hz1 : (strOfNums x1).size ≤ 1000 := by rw [strOfNums_size, E1.out]; exact b1
  have hym2 : strOfNums ym = strOfNums y0 ++ strOfNums x1 := by rw [hym, strOfNums_append]
  rw [hym2] at q1
  have hyl : ym.length ≤ 2000 := by rw [hym, List.length_append, EY.out, E1.out]; omega
  have hc0 : n2 ≤ cap0 := by omega
  have HYM := Lib.hid hym
  have HSF := Lib.hid ((disk_safe HD9.out.drew).mono (R' := fun e w' => e = .returned (.int .i64 (n2 : Int)) ∧ w' = w9.drew) (fun e w' h => ⟨h.1, h.2.symm⟩))
  clear r1 r2 r1' r2' g1 g2 g3 ho9 hym hym2
  generalize strOfNums y0 = sx at q0 q1 q2 hz0
  generalize strOfNums x1 = sz at q1 q3 hz1
  have hadd : ¬ (9223372036854775807 < sx.size + sz.size) := by omega
  go_wp2_with fail
  refine region_tail 30 (by kernel_rfl) (by kernel_rfl) ?_
  simp only [List.take_succ_cons, List.take_zero, List.drop_succ_cons, List.drop_zero]
  repeat still_step
  still_call HSF.out
  repeat still_step
  refine wpStill_nil ?_
  go_wp2_with fail
  have k1 := disk_cut ((ym.length : Int) + 1) HD9.out.drew (by simp [dk])
  rw [cut_big _ _ _ _ _ (.inr (by rw [HYM.out]; omega))] at k1
  refine k1.mono ?_
  clear k1
  rintro e w10 ⟨rfl, hL10⟩
  have HL10 := Lib.hid hL10
  clear hL10
  go_wp2_with fail
  have k2 := disk_cut (-1) HL10.out.1 (by simp [dk])
  rw [cut_big _ _ _ _ _ (.inl (by decide))] at k2
  refine k2.mono ?_
  clear k2
  rintro e w11 ⟨rfl, hL11⟩
  have HL11 := Lib.hid hL11
  clear hL11
  go_wp2_with fail
  refine (awake_any _).mono ?_
  rintro e w12 ⟨rfl, ho12⟩
  have HO12 := Lib.hid ho12
  clear ho12
  go_wp2_with fail
  go_ret
  refine ⟨rfl, ?_⟩
  have oo : Ours w _ w9 := ⟨HO9.out, HO5.out.new⟩
  exact ((((oo.quiet ((Only.refl Noth w9).drew)).leaves HL10.out).leaves HL11.out).only.trans HO12.out (fun _ h _ => h)).below (Nat.le_refl _) (fun _ h => h.elim)
end Go.Proofs.Ytibeblibminjfaa
