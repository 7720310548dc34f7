/- The walk of FileSafe. -/
import Derived.Test.YtibeblibminjfaaAwake
namespace Go.Proofs.Ytibeblibminjfaa
open Go.RowKit
set_option linter.unusedVariables false

def dk (snap log : List Int) (sf op : Nat) : Dk := { snap := snap, log := log, sf := sf, cp := 5000, op := op, fu := -1, dn := false, dw := false }
theorem new_dk : Dk.new 5000 = dk [] [] 0 0 := rfl
theorem append_dk (s l m : List Int) (sf op : Nat) (h : s.length + l.length + m.length ≤ 5000) : (dk s l sf op).append m = (dk s (l ++ m) sf (op + 1), 0) := by
  unfold Dk.append
  rw [if_neg (by simp [dk]), if_neg (by simp only [dk]; omega)]
  rfl
theorem sync_dk (s l : List Int) (sf op : Nat) : (dk s l sf op).sync = (dk s l l.length (op + 1), 0) := rfl
theorem crash_dk (s l : List Int) (sf op : Nat) (k : Int) : (dk s l sf op).crash k = dk s (l.take (sf + min (max k 0).toNat (l.length - sf))) (sf + min (max k 0).toNat (l.length - sf)) op := rfl

set_option maxHeartbeats 2000000 in
theorem safe_walk (a0 : Option Addr) (len0 cap0 : Nat) (z0 : List Int) (a1 : Option Addr) (len1 cap1 : Nat) (z1 : List Int) (k : Int) (w : World) (S : Nat → Prop)
    (h0 : len0 ≤ cap0) (h1 : len1 ≤ cap1) (hm0 : cap0 ≤ 9223372036854775807) (hm1 : cap1 ≤ 9223372036854775807) (hk0 : -9223372036854775808 ≤ k) (hk1 : k ≤ 9223372036854775807) (l0 : z0.length = len0) (l1 : z1.length = len1)
    (s0 : Src w S 1 a0 len0 (u8s z0)) (s1 : Src w S 1 a1 len1 (u8s z1)) (hS : ∀ j, S j → j < w.heap.size) :
    Calls Try.prog 3 #[.slice a0 len0 cap0, .slice a1 len1 cap1, .int .i64 k] w fun e w' => e = .returned (.bool true) ∧ Below w.heap.size w w' := by
  have HS := Lib.hid hS
  have L0 := Lib.hid l0
  have L1 := Lib.hid l1
  clear hS
  obtain ⟨n0, hn0⟩ : ∃ n0 : Nat, n0 = min len0 1000 := ⟨_, rfl⟩
  obtain ⟨n1, hn1⟩ : ∃ n1 : Nat, n1 = min len1 1000 := ⟨_, rfl⟩
  obtain ⟨n2, hn2⟩ : ∃ n2 : Nat, n2 = min (max k 0).toNat n1 := ⟨_, rfl⟩
  have m0 : (if (1000 : Int) < (len0 : Int) then (1000 : Int) else (len0 : Int)) = (n0 : Int) := by split <;> omega
  have m1 : (if (1000 : Int) < (len1 : Int) then (1000 : Int) else (len1 : Int)) = (n1 : Int) := by split <;> omega
  have c0 : n0 ≤ cap0 := by omega
  have c1 : n1 ≤ cap1 := by omega
  have N0 := Lib.hid hn0
  have N1 := Lib.hid hn1
  have N2 := Lib.hid hn2
  have b0 : n0 ≤ 1000 := by omega
  have b1 : n1 ≤ 1000 := by omega
  obtain ⟨x0, hx0⟩ : ∃ x0, x0 = z0.take n0 := ⟨_, rfl⟩
  obtain ⟨x1, hx1⟩ : ∃ x1, x1 = z1.take n1 := ⟨_, rfl⟩
  have t0 : Src w S 1 a0 n0 (u8s x0) := by
    have := s0.take (show n0 ≤ len0 by omega)
    rwa [Nat.mul_one, ← u8s_take, ← hx0] at this
  have t1 : Src w S 1 a1 n1 (u8s x1) := by
    have := s1.take (show n1 ≤ len1 by omega)
    rwa [Nat.mul_one, ← u8s_take, ← hx1] at this
  have e0 : x0.length = n0 := by rw [hx0, List.length_take]; omega
  have e1 : x1.length = n1 := by rw [hx1, List.length_take]; omega
  have T0 := Lib.hid t0
  have T1 := Lib.hid t1
  have E0 := Lib.hid e0
  have E1 := Lib.hid e1
  clear s0 s1 hn0 hn1 hn2 L0 L1 l0 l1 t0 t1 e0 e1 hx0 hx1
  go_enter Try.func3, Try.ntmps3
  go_wp2
  go_region
  go_wp2_with fail
  refine (disk_new 5000 (by omega) _).mono ?_
  rintro e w1 ⟨rfl, hD1, ho1, hz1⟩
  rw [new_dk] at hD1
  have HD1 := Lib.hid hD1
  have HO1 := Lib.hid (show Ours w (fun k => k = w.drew.heap.size) w1 from ⟨ho1.undrew, fun j hj => by subst hj; exact Nat.le_refl _⟩)
  clear hD1 ho1 hz1
  go_wp2_with fail
  refine (append_at a0 x0 n0 cap0 E0.out HD1.out (T0.out.only HO1.out.only (fun _ _ h => h)) (fun j hj hF => by have := HS.out j hj; have := HO1.out.new j hF; omega) (by have := E0.out; simp [dk]; omega) (by simp [dk]) (append_dk _ _ _ _ _ (by have := E0.out; simp; omega))).mono ?_
  rintro e w2 ⟨rfl, hL2⟩
  have HL2 := Lib.hid hL2
  have HO2 := Lib.hid (HO1.out.leaves hL2)
  clear hL2
  go_wp2_with fail
  have h3 := disk_sync HL2.out.1 (by simp [dk])
  rw [sync_dk] at h3
  refine h3.mono ?_
  clear h3
  rintro e w3 ⟨rfl, hL3⟩
  have HL3 := Lib.hid hL3
  have HO3 := Lib.hid (HO2.out.leaves hL3)
  clear hL3
  go_wp2_with fail
  refine (append_at a1 x1 n1 cap1 E1.out HL3.out.1 (T1.out.only HO3.out.only (fun _ _ h => h)) (fun j hj hF => by have := HS.out j hj; have := HO3.out.new j hF; omega) (by have := E0.out; have := E1.out; simp [dk]; omega) (by simp [dk]) (append_dk _ _ _ _ _ (by have := E0.out; have := E1.out; simp; omega))).mono ?_
  rintro e w4 ⟨rfl, hL4⟩
  have HL4 := Lib.hid hL4
  have HO4 := Lib.hid (HO3.out.leaves hL4)
  clear hL4
  go_wp2_with fail
  obtain ⟨y, hy⟩ : ∃ y, y = x0 ++ x1.take n2 := ⟨_, rfl⟩
  have hcr : ([] ++ x0 ++ x1).take ((([] : List Int) ++ x0).length + min (max k 0).toNat (([] ++ x0 ++ x1).length - ([] ++ x0).length)) = y := by
    have := E0.out
    have := E1.out
    rw [hy, N2.out]
    simp only [List.nil_append, List.length_append]
    rw [List.take_length_add_append]
    congr 2
    omega
  have Y := Lib.hid hy
  have h5 := disk_crash k HL4.out.1
  rw [crash_dk, hcr] at h5
  clear hy hcr
  refine h5.mono ?_
  clear h5
  rintro e w5 ⟨rfl, hL5⟩
  have HL5 := Lib.hid hL5
  have HO5 := Lib.hid (HO4.out.leaves hL5)
  clear hL5
  go_wp2_with fail
  refine (disk_read HL5.out.1).mono ?_
  rintro e w6 ⟨v1, v2, rfl, G1, G2, r1, r2, g1, g2, g3, ho6⟩
  have r1' : Row w6 G1 5 1 v1 0 [] := r1
  have r2' : Row w6 G2 5 1 v2 y.length (u8s y) := r2
  obtain ⟨A1, c1', hv1⟩ := r1'.shape
  obtain ⟨A2, c2', hv2⟩ := r2'.shape
  subst hv1
  subst hv2
  have HO6 := Lib.hid (HO5.out.quiet ho6)
  have q0 := conv_str c2' r2'.src.drew
  have q1 := conv_strN n0 cap0 E0.out ((T0.out.only HO6.out.only (fun _ _ h => h)).drew)
  have q2 : (convert 22 9 (.slice a1 n2 cap1)).run Try.prog w6.drew = .ok (.string (strOfNums (x1.take n2))) w6.drew := by
    have hn : n2 ≤ n1 := by have := N2.out; omega
    have h := ((T1.out.only HO6.out.only (fun _ _ h => h)).drew).take hn
    rw [Nat.mul_one, ← u8s_take] at h
    exact conv_strN n2 cap1 (by rw [List.length_take]; have := E1.out; omega) h
  have hn2 : n2 ≤ cap1 := by have := N2.out; omega
  obtain ⟨km, hkm⟩ : ∃ km : Nat, km = (max k 0).toNat := ⟨_, rfl⟩
  have mk : (if k < 0 then (0 : Int) else k) = (km : Int) := by split <;> omega
  have m2 : (if (n1 : Int) < (km : Int) then (n1 : Int) else (km : Int)) = (n2 : Int) := by have := N2.out; split <;> omega
  have m3 : (if n1 < km then (n1 : Int) else (km : Int)) = (n2 : Int) := by have := N2.out; split <;> omega
  have KM := Lib.hid hkm
  have hz0 : (strOfNums x0).size ≤ 1000 := by rw [strOfNums_size, E0.out]; exact b0
  have hz1 : (strOfNums (x1.take n2)).size ≤ 1000 := by rw [strOfNums_size, List.length_take]; have := E1.out; omega
  rw [Y.out, strOfNums_append, ← Y.out] at q0
  generalize strOfNums x0 = sx at q0 q1 hz0
  generalize strOfNums (x1.take n2) = sz at q0 q2 hz1
  clear hkm
  clear r1 r2 r1' r2' g1 g2 g3 ho6
  go_wp2_with fail
  have hadd : ¬ (9223372036854775807 < sx.size + sz.size) := by omega
  refine region_tail 15 (by kernel_rfl) (by kernel_rfl) ?_
  simp only [List.take_succ_cons, List.take_zero, List.drop_succ_cons, List.drop_zero]
  repeat still_step
  refine wpStill_nil ?_
  go_wp2_with (go_at_call 14; refine (awake_any _).mono ?_; rintro e w' ⟨rfl, ho⟩)
  go_ret
  exact ⟨rfl, ((HO6.out.only).trans ho.undrew (fun _ h _ => h)).below (Nat.le_refl _) (fun _ h => h.elim)⟩
end Go.Proofs.Ytibeblibminjfaa
