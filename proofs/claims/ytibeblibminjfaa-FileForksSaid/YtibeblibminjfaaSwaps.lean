/- The walk of FileSwaps. -/
import Derived.Test.YtibeblibminjfaaFork
import Derived.Test.YtibeblibminjfaaSafe
namespace Go.Proofs.Ytibeblibminjfaa
open Go.RowKit
set_option linter.unusedVariables false

theorem swap_dk (s l m : List Int) (sf op : Nat) (h : l.length + m.length ≤ 5000) : (dk s l sf op).swap m = (dk m l sf (op + 1), 0) := by
  unfold Dk.swap
  rw [if_neg (by simp [dk]), if_neg (by simp only [dk]; omega)]
  rfl
theorem fail_dk (s l : List Int) (sf op : Nat) (dn : Bool) : (dk s l sf op).fail 0 dn = ({ dk s l sf op with fu := 0, dn := dn }, 0) := rfl
theorem swap_fails (s l m : List Int) (sf op : Nat) (dn : Bool) (h : l.length + m.length ≤ 5000) : ({ dk s l sf op with fu := 0, dn := dn } : Dk).swap m = ({ dk (if dn then m else s) l sf (op + 1) with dn := dn, dw := true }, 12) := by
  unfold Dk.swap
  rw [if_neg (by simp [dk]), if_neg (by simp only [dk]; omega)]
  cases dn <;> rfl
theorem crash_any_dk (s l : List Int) (op : Nat) (dn dw : Bool) : ({ dk s l 0 op with dn := dn, dw := dw } : Dk).crash 0 = { dk s [] 0 op with dn := dn } := by
  simp [Dk.crash, dk]

theorem swap_at {F S : Nat → Prop} {w : World} {b : Nat} {d d' : Dk} {er : Int} (A : Option Addr) (l : List Int) (n c : Nat) (hn : l.length = n) (hA : A = none → n = 0 ∧ c = 0) (hD : DiskAt F w b d) (hs : Src w S 1 A n (u8s l)) (hSF : ∀ k, S k → ¬ F k) (hl : l.length ≤ 100000000) (hop : d.op + 1 ≤ 1000000)
    (he : d.swap l = (d', er)) : Calls Try.prog 15 #[.pointer (some ⟨b, 0, none⟩), .slice A n c] w fun e w' => e = .returned (.int .i64 er) ∧ Leaves F b d' w w' := by
  subst hn
  have h := disk_swap A l c hD hA hs hSF hl hop
  rwa [he] at h

set_option maxHeartbeats 4000000 in
theorem swaps_ok (a0 : Option Addr) (len0 cap0 : Nat) (z0 : List Int) (a1 : Option Addr) (len1 cap1 : Nat) (z1 : List Int) (a2 : Option Addr) (len2 cap2 : Nat) (z2 : List Int) (dn : Bool) (w : World) (S : Nat → Prop)
    (h0 : len0 ≤ cap0) (h1 : len1 ≤ cap1) (h2 : len2 ≤ cap2) (hm0 : cap0 ≤ 9223372036854775807) (hm1 : cap1 ≤ 9223372036854775807) (hm2 : cap2 ≤ 9223372036854775807) (l0 : z0.length = len0) (l1 : z1.length = len1) (l2 : z2.length = len2)
    (v0 : a0 = none → len0 = 0 ∧ cap0 = 0) (v1 : a1 = none → len1 = 0 ∧ cap1 = 0)
    (s0 : Src w S 1 a0 len0 (u8s z0)) (s1 : Src w S 1 a1 len1 (u8s z1)) (s2 : Src w S 1 a2 len2 (u8s z2)) (hS : ∀ j, S j → j < w.heap.size) :
    Calls Try.prog 4 #[.slice a0 len0 cap0, .slice a1 len1 cap1, .agg #[.slice a2 len2 cap2, .bool false, .bool dn]] w fun e w' => e = .returned (.bool true) ∧ Below w.heap.size w w' := by
  have HS := Lib.hid hS
  clear hS
  obtain ⟨n0, hn0⟩ : ∃ n0 : Nat, n0 = min len0 1000 := ⟨_, rfl⟩
  have m0 : (if (1000 : Int) < (len0 : Int) then (1000 : Int) else (len0 : Int)) = (n0 : Int) := by split <;> omega
  have c0 : n0 ≤ cap0 := by omega
  have b0 : n0 ≤ 1000 := by omega
  obtain ⟨x0, hx0⟩ : ∃ x0, x0 = z0.take n0 := ⟨_, rfl⟩
  have t0 : Src w S 1 a0 n0 (u8s x0) := by
    have := s0.take (show n0 ≤ len0 by omega)
    rwa [Nat.mul_one, ← u8s_take, ← hx0] at this
  have e0 : x0.length = n0 := by rw [hx0, List.length_take]; omega
  have T0 := Lib.hid t0
  have E0 := Lib.hid e0
  obtain ⟨n1, hn1⟩ : ∃ n1 : Nat, n1 = min len1 1000 := ⟨_, rfl⟩
  have m1 : (if (1000 : Int) < (len1 : Int) then (1000 : Int) else (len1 : Int)) = (n1 : Int) := by split <;> omega
  have c1 : n1 ≤ cap1 := by omega
  have b1 : n1 ≤ 1000 := by omega
  obtain ⟨x1, hx1⟩ : ∃ x1, x1 = z1.take n1 := ⟨_, rfl⟩
  have t1 : Src w S 1 a1 n1 (u8s x1) := by
    have := s1.take (show n1 ≤ len1 by omega)
    rwa [Nat.mul_one, ← u8s_take, ← hx1] at this
  have e1 : x1.length = n1 := by rw [hx1, List.length_take]; omega
  have T1 := Lib.hid t1
  have E1 := Lib.hid e1
  obtain ⟨n2, hn2⟩ : ∃ n2 : Nat, n2 = min len2 1000 := ⟨_, rfl⟩
  have m2 : (if (1000 : Int) < (len2 : Int) then (1000 : Int) else (len2 : Int)) = (n2 : Int) := by split <;> omega
  have c2 : n2 ≤ cap2 := by omega
  have b2 : n2 ≤ 1000 := by omega
  obtain ⟨x2, hx2⟩ : ∃ x2, x2 = z2.take n2 := ⟨_, rfl⟩
  have t2 : Src w S 1 a2 n2 (u8s x2) := by
    have := s2.take (show n2 ≤ len2 by omega)
    rwa [Nat.mul_one, ← u8s_take, ← hx2] at this
  have e2 : x2.length = n2 := by rw [hx2, List.length_take]; omega
  have T2 := Lib.hid t2
  have E2 := Lib.hid e2
  have V0 := Lib.hid (show a0 = none → n0 = 0 ∧ cap0 = 0 from fun h => ⟨by have := (v0 h).1; omega, (v0 h).2⟩)
  have V1 := Lib.hid (show a1 = none → n1 = 0 ∧ cap1 = 0 from fun h => ⟨by have := (v1 h).1; omega, (v1 h).2⟩)
  clear s0 s1 s2 hn0 hn1 hn2 l0 l1 l2 t0 t1 t2 e0 e1 e2 hx0 hx1 hx2 v0 v1
  have B0 : Hld (w.alloc (.cells #[.slice a2 len2 cap2, .bool false, .bool dn] 34)) w.heap.size 34 #[.slice a2 len2 cap2, .bool false, .bool dn] := Hld.new w _ _
  have hbx := fun (W : World) (ho : Only Noth (w.alloc (.cells #[.slice a2 len2 cap2, .bool false, .bool dn] 34)) W) => (⟨(B0.only ho (fun h => h)).cell 0, (B0.only ho (fun h => h)).cell 1, (B0.only ho (fun h => h)).cell 2⟩ :
    W.cell? ⟨w.heap.size, 0, none⟩ = some (.slice a2 len2 cap2) ∧ W.cell? ⟨w.heap.size, 1, none⟩ = some (.bool false) ∧ W.cell? ⟨w.heap.size, 2, none⟩ = some (.bool dn))
  have HBX := Lib.hid hbx
  have OB := Lib.hid ((Only.refl Noth w).alloc (.cells #[.slice a2 len2 cap2, .bool false, .bool dn] 34))
  clear B0 hbx
  go_enter Try.func4, Try.ntmps4
  go_wp2
  go_region
  go_wp2_with fail
  refine (disk_new 5000 (by omega) _).mono ?_
  rintro e w1 ⟨rfl, hD1, ho1, hz1⟩
  rw [new_dk, show (w.alloc (.cells #[.slice a2 len2 cap2, .bool false, .bool dn] 34)).drew.heap.size = w.heap.size + 1 by simp] at hD1
  have HD1 := Lib.hid hD1
  have P1 := Lib.hid (show Only Noth (w.alloc (.cells #[.slice a2 len2 cap2, .bool false, .bool dn] 34)) w1 from ho1.undrew)
  have HO1 := Lib.hid (show Ours w (fun j => j = w.heap.size + 1) w1 from ⟨OB.out.trans ho1.undrew (fun _ h _ => h), fun j hj => by omega⟩)
  clear hD1 ho1 hz1
  go_wp2_with fail
  refine (swap_at a0 x0 n0 cap0 E0.out V0.out HD1.out (T0.out.only HO1.out.only (fun _ _ h => h)) (fun j hj hF => by have := HS.out j hj; have := HO1.out.new j hF; omega) (by have := E0.out; omega) (by simp [dk]) (swap_dk _ _ _ _ _ (by have := E0.out; simp; omega))).mono ?_
  rintro e w2 ⟨rfl, hL2⟩
  have HL2 := Lib.hid hL2
  have HO2 := Lib.hid (HO1.out.leaves hL2)
  clear hL2
  go_wp2_with fail
  refine (append_at a2 x2 n2 cap2 E2.out HL2.out.1 (T2.out.only HO2.out.only (fun _ _ h => h)) (fun j hj hF => by have := HS.out j hj; have := HO2.out.new j hF; omega) (by have := E2.out; simp [dk]; omega) (by simp [dk]) (append_dk _ _ _ _ _ (by have := E0.out; have := E2.out; simp; omega))).mono ?_
  rintro e w3 ⟨rfl, hL3⟩
  have HL3 := Lib.hid hL3
  have HO3 := Lib.hid (HO2.out.leaves hL3)
  clear hL3
  -- the box stands apart from the disk
  have keep : ∀ (G : Nat → Prop) (W W' : World), (∀ j, G j → w.heap.size < j) → Only Noth (w.alloc (.cells #[.slice a2 len2 cap2, .bool false, .bool dn] 34)) W → Only G W W' → Only Noth (w.alloc (.cells #[.slice a2 len2 cap2, .bool false, .bool dn] 34)) W' := fun G W W' hG h1 h2 => h1.trans h2 (fun j hj hlt => by have := hG j hj; simp at hlt; omega)
  have F1 : ∀ j, j = w.heap.size + 1 → w.heap.size < j := fun j hj => by omega
  have FP : ∀ (G : Nat → Prop) (W W' : World), (∀ j, G j → w.heap.size < j) → Only Noth (w.alloc (.cells #[.slice a2 len2 cap2, .bool false, .bool dn] 34)) W → ∀ j, Plus G W W' j → w.heap.size < j := fun G W W' hG h1 j hj => by
    rcases hj with hj | hj
    · exact hG j hj
    · have := h1.size; simp at this; omega
  have p2 := keep _ _ _ F1 P1.out HL2.out.2
  have g2 := FP _ _ w2 F1 P1.out
  have p3 := keep _ _ _ g2 p2 HL3.out.2
  have g3 := FP _ _ w3 g2 p2
  obtain ⟨y0, y1, y2⟩ := HBX.out w3 p3
  have KEEP := Lib.hid keep
  have FPP := Lib.hid FP
  have P4 := Lib.hid p3
  have GG4 := Lib.hid g3
  have HL4 := HL3
  have HO4 := HO3
  clear keep FP p2 g2 p3 g3 F1
  go_wp2_with fail
  refine (swap_at a1 x1 n1 cap1 E1.out V1.out HL4.out.1 (T1.out.only HO4.out.only (fun _ _ h => h)) (fun j hj hF => by have := HS.out j hj; have := HO4.out.new j hF; omega) (by have := E1.out; omega) (by simp [dk]) (swap_dk _ _ _ _ _ (by have := E1.out; have := E2.out; simp; omega))).mono ?_
  clear y0 y1 y2
  rintro e w5 ⟨rfl, hL5⟩
  have HL5 := Lib.hid hL5
  have HO5 := Lib.hid (HO4.out.leaves hL5)
  have p5 := KEEP.out _ _ _ GG4.out P4.out hL5.2
  have g5 := FPP.out _ _ w5 GG4.out P4.out
  obtain ⟨y0, y1, y2⟩ := HBX.out w5 p5
  have P5 := Lib.hid p5
  have GG5 := Lib.hid g5
  clear hL5 p5 g5
  go_wp2_with fail
  have h6 := disk_crash 0 HL5.out.1
  rw [show Dk.crash _ 0 = _ from crash_any_dk _ _ _ _ _] at h6
  refine h6.mono ?_
  clear h6 y0 y1 y2
  rintro e w6 ⟨rfl, hL6⟩
  have HL6 := Lib.hid hL6
  have HO6 := Lib.hid (HO5.out.leaves hL6)
  have P6 := Lib.hid (KEEP.out _ _ _ GG5.out P5.out hL6.2)
  clear hL6
  go_wp2_with fail
  refine (disk_read HL6.out.1).mono ?_
  rintro e w7 ⟨v1, v2, rfl, G1, G2, r1, r2, g1, g2, g3, ho7⟩
  have r1' : Row w7 G1 5 1 v1 x1.length (u8s x1) := r1
  have r2' : Row w7 G2 5 1 v2 0 [] := r2
  obtain ⟨A1, c1', hv1⟩ := r1'.shape
  obtain ⟨A2, c2', hv2⟩ := r2'.shape
  subst hv1
  subst hv2
  have HO7 := Lib.hid (HO6.out.quiet ho7)
  obtain ⟨y0, y1, y2⟩ := HBX.out w7 (P6.out.trans ho7 (fun _ h _ => h))
  have q0 := conv_str c1' r1'.src
  have q1 := conv_strN n1 cap1 E1.out (T1.out.only HO7.out.only (fun _ _ h => h))
  clear r1 r2 r1' r2' g1 g2 g3 ho7
  go_wp2_with (go_at_call 14; refine (awake_any _).mono ?_; rintro e w' ⟨rfl, ho⟩)
  go_ret
  exact ⟨rfl, ((HO7.out.only).trans ho (fun _ h _ => h)).below (Nat.le_refl _) (fun _ h => h.elim)⟩

set_option maxHeartbeats 4000000 in
theorem swaps_done (a0 : Option Addr) (len0 cap0 : Nat) (z0 : List Int) (a1 : Option Addr) (len1 cap1 : Nat) (z1 : List Int) (a2 : Option Addr) (len2 cap2 : Nat) (z2 : List Int) (w : World) (S : Nat → Prop)
    (h0 : len0 ≤ cap0) (h1 : len1 ≤ cap1) (h2 : len2 ≤ cap2) (hm0 : cap0 ≤ 9223372036854775807) (hm1 : cap1 ≤ 9223372036854775807) (hm2 : cap2 ≤ 9223372036854775807) (l0 : z0.length = len0) (l1 : z1.length = len1) (l2 : z2.length = len2)
    (v0 : a0 = none → len0 = 0 ∧ cap0 = 0) (v1 : a1 = none → len1 = 0 ∧ cap1 = 0)
    (s0 : Src w S 1 a0 len0 (u8s z0)) (s1 : Src w S 1 a1 len1 (u8s z1)) (s2 : Src w S 1 a2 len2 (u8s z2)) (hS : ∀ j, S j → j < w.heap.size) :
    Calls Try.prog 4 #[.slice a0 len0 cap0, .slice a1 len1 cap1, .agg #[.slice a2 len2 cap2, .bool true, .bool true]] w fun e w' => e = .returned (.bool true) ∧ Below w.heap.size w w' := by
  have HS := Lib.hid hS
  clear hS
  obtain ⟨n0, hn0⟩ : ∃ n0 : Nat, n0 = min len0 1000 := ⟨_, rfl⟩
  have m0 : (if (1000 : Int) < (len0 : Int) then (1000 : Int) else (len0 : Int)) = (n0 : Int) := by split <;> omega
  have c0 : n0 ≤ cap0 := by omega
  have b0 : n0 ≤ 1000 := by omega
  obtain ⟨x0, hx0⟩ : ∃ x0, x0 = z0.take n0 := ⟨_, rfl⟩
  have t0 : Src w S 1 a0 n0 (u8s x0) := by
    have := s0.take (show n0 ≤ len0 by omega)
    rwa [Nat.mul_one, ← u8s_take, ← hx0] at this
  have e0 : x0.length = n0 := by rw [hx0, List.length_take]; omega
  have T0 := Lib.hid t0
  have E0 := Lib.hid e0
  obtain ⟨n1, hn1⟩ : ∃ n1 : Nat, n1 = min len1 1000 := ⟨_, rfl⟩
  have m1 : (if (1000 : Int) < (len1 : Int) then (1000 : Int) else (len1 : Int)) = (n1 : Int) := by split <;> omega
  have c1 : n1 ≤ cap1 := by omega
  have b1 : n1 ≤ 1000 := by omega
  obtain ⟨x1, hx1⟩ : ∃ x1, x1 = z1.take n1 := ⟨_, rfl⟩
  have t1 : Src w S 1 a1 n1 (u8s x1) := by
    have := s1.take (show n1 ≤ len1 by omega)
    rwa [Nat.mul_one, ← u8s_take, ← hx1] at this
  have e1 : x1.length = n1 := by rw [hx1, List.length_take]; omega
  have T1 := Lib.hid t1
  have E1 := Lib.hid e1
  obtain ⟨n2, hn2⟩ : ∃ n2 : Nat, n2 = min len2 1000 := ⟨_, rfl⟩
  have m2 : (if (1000 : Int) < (len2 : Int) then (1000 : Int) else (len2 : Int)) = (n2 : Int) := by split <;> omega
  have c2 : n2 ≤ cap2 := by omega
  have b2 : n2 ≤ 1000 := by omega
  obtain ⟨x2, hx2⟩ : ∃ x2, x2 = z2.take n2 := ⟨_, rfl⟩
  have t2 : Src w S 1 a2 n2 (u8s x2) := by
    have := s2.take (show n2 ≤ len2 by omega)
    rwa [Nat.mul_one, ← u8s_take, ← hx2] at this
  have e2 : x2.length = n2 := by rw [hx2, List.length_take]; omega
  have T2 := Lib.hid t2
  have E2 := Lib.hid e2
  have V0 := Lib.hid (show a0 = none → n0 = 0 ∧ cap0 = 0 from fun h => ⟨by have := (v0 h).1; omega, (v0 h).2⟩)
  have V1 := Lib.hid (show a1 = none → n1 = 0 ∧ cap1 = 0 from fun h => ⟨by have := (v1 h).1; omega, (v1 h).2⟩)
  clear s0 s1 s2 hn0 hn1 hn2 l0 l1 l2 t0 t1 t2 e0 e1 e2 hx0 hx1 hx2 v0 v1
  have B0 : Hld (w.alloc (.cells #[.slice a2 len2 cap2, .bool true, .bool true] 34)) w.heap.size 34 #[.slice a2 len2 cap2, .bool true, .bool true] := Hld.new w _ _
  have hbx := fun (W : World) (ho : Only Noth (w.alloc (.cells #[.slice a2 len2 cap2, .bool true, .bool true] 34)) W) => (⟨(B0.only ho (fun h => h)).cell 0, (B0.only ho (fun h => h)).cell 1, (B0.only ho (fun h => h)).cell 2⟩ :
    W.cell? ⟨w.heap.size, 0, none⟩ = some (.slice a2 len2 cap2) ∧ W.cell? ⟨w.heap.size, 1, none⟩ = some (.bool true) ∧ W.cell? ⟨w.heap.size, 2, none⟩ = some (.bool true))
  have HBX := Lib.hid hbx
  have OB := Lib.hid ((Only.refl Noth w).alloc (.cells #[.slice a2 len2 cap2, .bool true, .bool true] 34))
  clear B0 hbx
  go_enter Try.func4, Try.ntmps4
  go_wp2
  go_region
  go_wp2_with fail
  refine (disk_new 5000 (by omega) _).mono ?_
  rintro e w1 ⟨rfl, hD1, ho1, hz1⟩
  rw [new_dk, show (w.alloc (.cells #[.slice a2 len2 cap2, .bool true, .bool true] 34)).drew.heap.size = w.heap.size + 1 by simp] at hD1
  have HD1 := Lib.hid hD1
  have P1 := Lib.hid (show Only Noth (w.alloc (.cells #[.slice a2 len2 cap2, .bool true, .bool true] 34)) w1 from ho1.undrew)
  have HO1 := Lib.hid (show Ours w (fun j => j = w.heap.size + 1) w1 from ⟨OB.out.trans ho1.undrew (fun _ h _ => h), fun j hj => by omega⟩)
  clear hD1 ho1 hz1
  go_wp2_with fail
  refine (swap_at a0 x0 n0 cap0 E0.out V0.out HD1.out (T0.out.only HO1.out.only (fun _ _ h => h)) (fun j hj hF => by have := HS.out j hj; have := HO1.out.new j hF; omega) (by have := E0.out; omega) (by simp [dk]) (swap_dk _ _ _ _ _ (by have := E0.out; simp; omega))).mono ?_
  rintro e w2 ⟨rfl, hL2⟩
  have HL2 := Lib.hid hL2
  have HO2 := Lib.hid (HO1.out.leaves hL2)
  clear hL2
  go_wp2_with fail
  refine (append_at a2 x2 n2 cap2 E2.out HL2.out.1 (T2.out.only HO2.out.only (fun _ _ h => h)) (fun j hj hF => by have := HS.out j hj; have := HO2.out.new j hF; omega) (by have := E2.out; simp [dk]; omega) (by simp [dk]) (append_dk _ _ _ _ _ (by have := E0.out; have := E2.out; simp; omega))).mono ?_
  rintro e w3 ⟨rfl, hL3⟩
  have HL3 := Lib.hid hL3
  have HO3 := Lib.hid (HO2.out.leaves hL3)
  clear hL3
  -- the box stands apart from the disk
  have keep : ∀ (G : Nat → Prop) (W W' : World), (∀ j, G j → w.heap.size < j) → Only Noth (w.alloc (.cells #[.slice a2 len2 cap2, .bool true, .bool true] 34)) W → Only G W W' → Only Noth (w.alloc (.cells #[.slice a2 len2 cap2, .bool true, .bool true] 34)) W' := fun G W W' hG h1 h2 => h1.trans h2 (fun j hj hlt => by have := hG j hj; simp at hlt; omega)
  have F1 : ∀ j, j = w.heap.size + 1 → w.heap.size < j := fun j hj => by omega
  have FP : ∀ (G : Nat → Prop) (W W' : World), (∀ j, G j → w.heap.size < j) → Only Noth (w.alloc (.cells #[.slice a2 len2 cap2, .bool true, .bool true] 34)) W → ∀ j, Plus G W W' j → w.heap.size < j := fun G W W' hG h1 j hj => by
    rcases hj with hj | hj
    · exact hG j hj
    · have := h1.size; simp at this; omega
  have p2 := keep _ _ _ F1 P1.out HL2.out.2
  have g2 := FP _ _ w2 F1 P1.out
  have p3 := keep _ _ _ g2 p2 HL3.out.2
  have g3 := FP _ _ w3 g2 p2
  obtain ⟨y0, y1, y2⟩ := HBX.out w3 p3
  have KEEP := Lib.hid keep
  have FPP := Lib.hid FP
  have P3 := Lib.hid p3
  have GG3 := Lib.hid g3
  clear keep FP p2 g2 p3 g3 F1
  go_wp2_with fail
  have h4 := disk_fail 0 true HL3.out.1 (by decide)
  rw [fail_dk] at h4
  refine h4.mono ?_
  clear h4 y0 y1 y2
  rintro e w4 ⟨rfl, hL4⟩
  have HL4 := Lib.hid hL4
  have HO4 := Lib.hid (HO3.out.leaves hL4)
  have P4 := Lib.hid (KEEP.out _ _ _ GG3.out P3.out hL4.2)
  have GG4 := Lib.hid (FPP.out _ _ w4 GG3.out P3.out)
  clear hL4
  go_wp2_with fail
  refine (swap_at a1 x1 n1 cap1 E1.out V1.out HL4.out.1 (T1.out.only HO4.out.only (fun _ _ h => h)) (fun j hj hF => by have := HS.out j hj; have := HO4.out.new j hF; omega) (by have := E1.out; omega) (by simp [dk]) (swap_fails _ _ _ _ _ _ (by have := E1.out; have := E2.out; simp; omega))).mono ?_
  
  rintro e w5 ⟨rfl, hL5⟩
  have HL5 := Lib.hid hL5
  have HO5 := Lib.hid (HO4.out.leaves hL5)
  have p5 := KEEP.out _ _ _ GG4.out P4.out hL5.2
  have g5 := FPP.out _ _ w5 GG4.out P4.out
  obtain ⟨y0, y1, y2⟩ := HBX.out w5 p5
  have P5 := Lib.hid p5
  have GG5 := Lib.hid g5
  clear hL5 p5 g5
  go_wp2_with fail
  have h6 := disk_crash 0 HL5.out.1
  rw [show Dk.crash _ 0 = _ from crash_any_dk _ _ _ _ _] at h6
  refine h6.mono ?_
  clear h6 y0 y1 y2
  rintro e w6 ⟨rfl, hL6⟩
  have HL6 := Lib.hid hL6
  have HO6 := Lib.hid (HO5.out.leaves hL6)
  have P6 := Lib.hid (KEEP.out _ _ _ GG5.out P5.out hL6.2)
  clear hL6
  go_wp2_with fail
  refine (disk_read HL6.out.1).mono ?_
  rintro e w7 ⟨v1, v2, rfl, G1, G2, r1, r2, g1, g2, g3, ho7⟩
  have r1' : Row w7 G1 5 1 v1 x1.length (u8s x1) := r1
  have r2' : Row w7 G2 5 1 v2 0 [] := r2
  obtain ⟨A1, c1', hv1⟩ := r1'.shape
  obtain ⟨A2, c2', hv2⟩ := r2'.shape
  subst hv1
  subst hv2
  have HO7 := Lib.hid (HO6.out.quiet ho7)
  obtain ⟨y0, y1, y2⟩ := HBX.out w7 (P6.out.trans ho7 (fun _ h _ => h))
  have q0 := conv_str c1' r1'.src
  have q1 := conv_strN n1 cap1 E1.out (T1.out.only HO7.out.only (fun _ _ h => h))
  clear r1 r2 r1' r2' g1 g2 g3 ho7
  go_wp2_with (go_at_call 14; refine (awake_any _).mono ?_; rintro e w' ⟨rfl, ho⟩)
  go_ret
  exact ⟨rfl, ((HO7.out.only).trans ho (fun _ h _ => h)).below (Nat.le_refl _) (fun _ h => h.elim)⟩

set_option maxHeartbeats 4000000 in
theorem swaps_not (a0 : Option Addr) (len0 cap0 : Nat) (z0 : List Int) (a1 : Option Addr) (len1 cap1 : Nat) (z1 : List Int) (a2 : Option Addr) (len2 cap2 : Nat) (z2 : List Int) (w : World) (S : Nat → Prop)
    (h0 : len0 ≤ cap0) (h1 : len1 ≤ cap1) (h2 : len2 ≤ cap2) (hm0 : cap0 ≤ 9223372036854775807) (hm1 : cap1 ≤ 9223372036854775807) (hm2 : cap2 ≤ 9223372036854775807) (l0 : z0.length = len0) (l1 : z1.length = len1) (l2 : z2.length = len2)
    (v0 : a0 = none → len0 = 0 ∧ cap0 = 0) (v1 : a1 = none → len1 = 0 ∧ cap1 = 0)
    (s0 : Src w S 1 a0 len0 (u8s z0)) (s1 : Src w S 1 a1 len1 (u8s z1)) (s2 : Src w S 1 a2 len2 (u8s z2)) (hS : ∀ j, S j → j < w.heap.size) :
    Calls Try.prog 4 #[.slice a0 len0 cap0, .slice a1 len1 cap1, .agg #[.slice a2 len2 cap2, .bool true, .bool false]] w fun e w' => e = .returned (.bool true) ∧ Below w.heap.size w w' := by
  have HS := Lib.hid hS
  clear hS
  obtain ⟨n0, hn0⟩ : ∃ n0 : Nat, n0 = min len0 1000 := ⟨_, rfl⟩
  have m0 : (if (1000 : Int) < (len0 : Int) then (1000 : Int) else (len0 : Int)) = (n0 : Int) := by split <;> omega
  have c0 : n0 ≤ cap0 := by omega
  have b0 : n0 ≤ 1000 := by omega
  obtain ⟨x0, hx0⟩ : ∃ x0, x0 = z0.take n0 := ⟨_, rfl⟩
  have t0 : Src w S 1 a0 n0 (u8s x0) := by
    have := s0.take (show n0 ≤ len0 by omega)
    rwa [Nat.mul_one, ← u8s_take, ← hx0] at this
  have e0 : x0.length = n0 := by rw [hx0, List.length_take]; omega
  have T0 := Lib.hid t0
  have E0 := Lib.hid e0
  obtain ⟨n1, hn1⟩ : ∃ n1 : Nat, n1 = min len1 1000 := ⟨_, rfl⟩
  have m1 : (if (1000 : Int) < (len1 : Int) then (1000 : Int) else (len1 : Int)) = (n1 : Int) := by split <;> omega
  have c1 : n1 ≤ cap1 := by omega
  have b1 : n1 ≤ 1000 := by omega
  obtain ⟨x1, hx1⟩ : ∃ x1, x1 = z1.take n1 := ⟨_, rfl⟩
  have t1 : Src w S 1 a1 n1 (u8s x1) := by
    have := s1.take (show n1 ≤ len1 by omega)
    rwa [Nat.mul_one, ← u8s_take, ← hx1] at this
  have e1 : x1.length = n1 := by rw [hx1, List.length_take]; omega
  have T1 := Lib.hid t1
  have E1 := Lib.hid e1
  obtain ⟨n2, hn2⟩ : ∃ n2 : Nat, n2 = min len2 1000 := ⟨_, rfl⟩
  have m2 : (if (1000 : Int) < (len2 : Int) then (1000 : Int) else (len2 : Int)) = (n2 : Int) := by split <;> omega
  have c2 : n2 ≤ cap2 := by omega
  have b2 : n2 ≤ 1000 := by omega
  obtain ⟨x2, hx2⟩ : ∃ x2, x2 = z2.take n2 := ⟨_, rfl⟩
  have t2 : Src w S 1 a2 n2 (u8s x2) := by
    have := s2.take (show n2 ≤ len2 by omega)
    rwa [Nat.mul_one, ← u8s_take, ← hx2] at this
  have e2 : x2.length = n2 := by rw [hx2, List.length_take]; omega
  have T2 := Lib.hid t2
  have E2 := Lib.hid e2
  have V0 := Lib.hid (show a0 = none → n0 = 0 ∧ cap0 = 0 from fun h => ⟨by have := (v0 h).1; omega, (v0 h).2⟩)
  have V1 := Lib.hid (show a1 = none → n1 = 0 ∧ cap1 = 0 from fun h => ⟨by have := (v1 h).1; omega, (v1 h).2⟩)
  clear s0 s1 s2 hn0 hn1 hn2 l0 l1 l2 t0 t1 t2 e0 e1 e2 hx0 hx1 hx2 v0 v1
  have B0 : Hld (w.alloc (.cells #[.slice a2 len2 cap2, .bool true, .bool false] 34)) w.heap.size 34 #[.slice a2 len2 cap2, .bool true, .bool false] := Hld.new w _ _
  have hbx := fun (W : World) (ho : Only Noth (w.alloc (.cells #[.slice a2 len2 cap2, .bool true, .bool false] 34)) W) => (⟨(B0.only ho (fun h => h)).cell 0, (B0.only ho (fun h => h)).cell 1, (B0.only ho (fun h => h)).cell 2⟩ :
    W.cell? ⟨w.heap.size, 0, none⟩ = some (.slice a2 len2 cap2) ∧ W.cell? ⟨w.heap.size, 1, none⟩ = some (.bool true) ∧ W.cell? ⟨w.heap.size, 2, none⟩ = some (.bool false))
  have HBX := Lib.hid hbx
  have OB := Lib.hid ((Only.refl Noth w).alloc (.cells #[.slice a2 len2 cap2, .bool true, .bool false] 34))
  clear B0 hbx
  go_enter Try.func4, Try.ntmps4
  go_wp2
  go_region
  go_wp2_with fail
  refine (disk_new 5000 (by omega) _).mono ?_
  rintro e w1 ⟨rfl, hD1, ho1, hz1⟩
  rw [new_dk, show (w.alloc (.cells #[.slice a2 len2 cap2, .bool true, .bool false] 34)).drew.heap.size = w.heap.size + 1 by simp] at hD1
  have HD1 := Lib.hid hD1
  have P1 := Lib.hid (show Only Noth (w.alloc (.cells #[.slice a2 len2 cap2, .bool true, .bool false] 34)) w1 from ho1.undrew)
  have HO1 := Lib.hid (show Ours w (fun j => j = w.heap.size + 1) w1 from ⟨OB.out.trans ho1.undrew (fun _ h _ => h), fun j hj => by omega⟩)
  clear hD1 ho1 hz1
  go_wp2_with fail
  refine (swap_at a0 x0 n0 cap0 E0.out V0.out HD1.out (T0.out.only HO1.out.only (fun _ _ h => h)) (fun j hj hF => by have := HS.out j hj; have := HO1.out.new j hF; omega) (by have := E0.out; omega) (by simp [dk]) (swap_dk _ _ _ _ _ (by have := E0.out; simp; omega))).mono ?_
  rintro e w2 ⟨rfl, hL2⟩
  have HL2 := Lib.hid hL2
  have HO2 := Lib.hid (HO1.out.leaves hL2)
  clear hL2
  go_wp2_with fail
  refine (append_at a2 x2 n2 cap2 E2.out HL2.out.1 (T2.out.only HO2.out.only (fun _ _ h => h)) (fun j hj hF => by have := HS.out j hj; have := HO2.out.new j hF; omega) (by have := E2.out; simp [dk]; omega) (by simp [dk]) (append_dk _ _ _ _ _ (by have := E0.out; have := E2.out; simp; omega))).mono ?_
  rintro e w3 ⟨rfl, hL3⟩
  have HL3 := Lib.hid hL3
  have HO3 := Lib.hid (HO2.out.leaves hL3)
  clear hL3
  -- the box stands apart from the disk
  have keep : ∀ (G : Nat → Prop) (W W' : World), (∀ j, G j → w.heap.size < j) → Only Noth (w.alloc (.cells #[.slice a2 len2 cap2, .bool true, .bool false] 34)) W → Only G W W' → Only Noth (w.alloc (.cells #[.slice a2 len2 cap2, .bool true, .bool false] 34)) W' := fun G W W' hG h1 h2 => h1.trans h2 (fun j hj hlt => by have := hG j hj; simp at hlt; omega)
  have F1 : ∀ j, j = w.heap.size + 1 → w.heap.size < j := fun j hj => by omega
  have FP : ∀ (G : Nat → Prop) (W W' : World), (∀ j, G j → w.heap.size < j) → Only Noth (w.alloc (.cells #[.slice a2 len2 cap2, .bool true, .bool false] 34)) W → ∀ j, Plus G W W' j → w.heap.size < j := fun G W W' hG h1 j hj => by
    rcases hj with hj | hj
    · exact hG j hj
    · have := h1.size; simp at this; omega
  have p2 := keep _ _ _ F1 P1.out HL2.out.2
  have g2 := FP _ _ w2 F1 P1.out
  have p3 := keep _ _ _ g2 p2 HL3.out.2
  have g3 := FP _ _ w3 g2 p2
  obtain ⟨y0, y1, y2⟩ := HBX.out w3 p3
  have KEEP := Lib.hid keep
  have FPP := Lib.hid FP
  have P3 := Lib.hid p3
  have GG3 := Lib.hid g3
  clear keep FP p2 g2 p3 g3 F1
  go_wp2_with fail
  have h4 := disk_fail 0 false HL3.out.1 (by decide)
  rw [fail_dk] at h4
  refine h4.mono ?_
  clear h4 y0 y1 y2
  rintro e w4 ⟨rfl, hL4⟩
  have HL4 := Lib.hid hL4
  have HO4 := Lib.hid (HO3.out.leaves hL4)
  have P4 := Lib.hid (KEEP.out _ _ _ GG3.out P3.out hL4.2)
  have GG4 := Lib.hid (FPP.out _ _ w4 GG3.out P3.out)
  clear hL4
  go_wp2_with fail
  refine (swap_at a1 x1 n1 cap1 E1.out V1.out HL4.out.1 (T1.out.only HO4.out.only (fun _ _ h => h)) (fun j hj hF => by have := HS.out j hj; have := HO4.out.new j hF; omega) (by have := E1.out; omega) (by simp [dk]) (swap_fails _ _ _ _ _ _ (by have := E1.out; have := E2.out; simp; omega))).mono ?_
  
  rintro e w5 ⟨rfl, hL5⟩
  have HL5 := Lib.hid hL5
  have HO5 := Lib.hid (HO4.out.leaves hL5)
  have p5 := KEEP.out _ _ _ GG4.out P4.out hL5.2
  have g5 := FPP.out _ _ w5 GG4.out P4.out
  obtain ⟨y0, y1, y2⟩ := HBX.out w5 p5
  have P5 := Lib.hid p5
  have GG5 := Lib.hid g5
  clear hL5 p5 g5
  go_wp2_with fail
  have h6 := disk_crash 0 HL5.out.1
  rw [show Dk.crash _ 0 = _ from crash_any_dk _ _ _ _ _] at h6
  refine h6.mono ?_
  clear h6 y0 y1 y2
  rintro e w6 ⟨rfl, hL6⟩
  have HL6 := Lib.hid hL6
  have HO6 := Lib.hid (HO5.out.leaves hL6)
  have P6 := Lib.hid (KEEP.out _ _ _ GG5.out P5.out hL6.2)
  clear hL6
  go_wp2_with fail
  refine (disk_read HL6.out.1).mono ?_
  rintro e w7 ⟨v1, v2, rfl, G1, G2, r1, r2, g1, g2, g3, ho7⟩
  have r1' : Row w7 G1 5 1 v1 x0.length (u8s x0) := r1
  have r2' : Row w7 G2 5 1 v2 0 [] := r2
  obtain ⟨A1, c1', hv1⟩ := r1'.shape
  obtain ⟨A2, c2', hv2⟩ := r2'.shape
  subst hv1
  subst hv2
  have HO7 := Lib.hid (HO6.out.quiet ho7)
  obtain ⟨y0, y1, y2⟩ := HBX.out w7 (P6.out.trans ho7 (fun _ h _ => h))
  have q0 := conv_str c1' r1'.src
  have q1 := conv_strN n0 cap0 E0.out (T0.out.only HO7.out.only (fun _ _ h => h))
  clear r1 r2 r1' r2' g1 g2 g3 ho7
  go_wp2_with (go_at_call 14; refine (awake_any _).mono ?_; rintro e w' ⟨rfl, ho⟩)
  go_ret
  exact ⟨rfl, ((HO7.out.only).trans ho (fun _ h _ => h)).below (Nat.le_refl _) (fun _ h => h.elim)⟩

end Go.Proofs.Ytibeblibminjfaa
