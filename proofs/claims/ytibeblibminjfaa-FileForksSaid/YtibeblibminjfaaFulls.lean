/- The walk of FileFulls. -/
import Derived.Test.YtibeblibminjfaaActs
import Derived.Test.YtibeblibminjfaaSwaps
import Derived.Deep.CutRange
import Derived.Deep.CutBlock
namespace Go.Proofs.Ytibeblibminjfaa
open Go.RowKit
set_option linter.unusedVariables false

/-- A call of FileFulls, over plain data. -/
def fullsStep (d : Dk) (x : Ac) : Dk × Int :=
  if x.kind % 7 = 2 then d.cut x.n else if x.kind % 7 = 3 then d.sync else if x.kind % 7 = 4 then d.swap x.z else if x.kind % 7 = 6 then (d.crash x.n, 0) else d.append x.z

structure FullsInv (c0 : Nat) (d : Dk) (k : Nat) : Prop where
  dw : d.dw = false
  fu : d.fu = -1
  cp : d.cp = c0
  room : d.snap.length + d.log.length ≤ c0
  op : d.op ≤ k
  sf : d.sf ≤ d.log.length

theorem tick_fine (d : Dk) (upd : Dk → Dk) (h : d.fu = -1) : d.tick upd = (upd { d with op := d.op + 1, fu := -1 }, 0) := by
  unfold Dk.tick
  rw [if_neg (by omega), h]
  rfl

theorem fulls_step {cp : Nat} {d : Dk} {k : Nat} (x : Ac) (h : FullsInv cp d k) :
    FullsInv cp (fullsStep d x).1 (k + 1) ∧ ((fullsStep d x).2 = 0 ∨ (((fullsStep d x).2 = 11 ∨ (fullsStep d x).2 = 15) ∧ (fullsStep d x).1 = d)) := by
  have h1 := h.room
  have h2 := h.sf
  have h3 := h.op
  have hk : FullsInv cp d (k + 1) := ⟨h.dw, h.fu, h.cp, h.room, by omega, h.sf⟩
  unfold fullsStep
  split
  · unfold Dk.cut
    rw [if_neg (by simp [h.dw])]
    split
    · exact ⟨hk, .inr ⟨.inr rfl, rfl⟩⟩
    · rw [tick_fine _ _ h.fu]
      refine ⟨⟨h.dw, rfl, h.cp, ?_, by show d.op + 1 ≤ k + 1; omega, ?_⟩, .inl rfl⟩
      · show d.snap.length + (d.log.take _).length ≤ cp
        rw [List.length_take]
        omega
      · show min d.sf _ ≤ (d.log.take _).length
        rw [List.length_take]
        omega
  · split
    · unfold Dk.sync
      rw [if_neg (by simp [h.dw]), tick_fine _ _ h.fu]
      exact ⟨⟨h.dw, rfl, h.cp, h.room, by show d.op + 1 ≤ k + 1; omega, Nat.le_refl _⟩, .inl rfl⟩
    · split
      · unfold Dk.swap
        rw [if_neg (by simp [h.dw])]
        split
        · exact ⟨hk, .inr ⟨.inl rfl, rfl⟩⟩
        · rename_i hz
          rw [tick_fine _ _ h.fu]
          rw [h.cp] at hz
          exact ⟨⟨h.dw, rfl, h.cp, by show x.z.length + d.log.length ≤ cp; omega, by show d.op + 1 ≤ k + 1; omega, h.sf⟩, .inl rfl⟩
      · split
        · refine ⟨⟨rfl, rfl, h.cp, ?_, by show d.op ≤ k + 1; omega, ?_⟩, .inl rfl⟩
          · show d.snap.length + (d.log.take _).length ≤ cp
            rw [List.length_take]
            omega
          · show d.sf + _ ≤ (d.log.take _).length
            rw [List.length_take]
            omega
        · unfold Dk.append
          rw [if_neg (by simp [h.dw])]
          split
          · exact ⟨hk, .inr ⟨.inl rfl, rfl⟩⟩
          · rename_i hz
            rw [tick_fine _ _ h.fu]
            rw [h.cp] at hz
            exact ⟨⟨h.dw, rfl, h.cp, by show d.snap.length + (d.log ++ x.z).length ≤ cp; rw [List.length_append]; omega, by show d.op + 1 ≤ k + 1; omega, by show d.sf ≤ (d.log ++ x.z).length; rw [List.length_append]; omega⟩, .inl rfl⟩

theorem few_yes (A : Option Addr) (n c : Nat) (xs : List Ac) (w : World) (S : Nat → Prop) (hx : ActsAt w S A xs) (hl : xs.length = n) (hf : fewB xs = true) :
    Calls Try.prog 20 #[.slice A n c] w fun e w' => e = .returned (.bool true) ∧ w = w' := by
  simp only [fewB, Bool.and_eq_true, decide_eq_true_eq] at hf
  have h := few_some A n c xs w S hx hl (by omega)
  rwa [decide_eq_true hf.2] at h
theorem few_no (A : Option Addr) (n c : Nat) (xs : List Ac) (w : World) (S : Nat → Prop) (hx : ActsAt w S A xs) (hl : xs.length = n) (hm : n ≤ 9223372036854775807) (hf : fewB xs = false) :
    Calls Try.prog 20 #[.slice A n c] w fun e w' => e = .returned (.bool false) ∧ w = w' := by
  rcases Nat.lt_or_ge 100 n with h | h
  · exact few_many A n c w h hm
  · have hs : ¬ sumB xs ≤ 10000 := by
      intro h2
      rw [fewB, decide_eq_true h2, decide_eq_true (show xs.length ≤ 100 by omega)] at hf
      cases hf
    have h3 := few_some A n c xs w S hx hl h
    rwa [decide_eq_false hs] at h3

theorem cut_at {F : Nat → Prop} {w : World} {b : Nat} {d d' : Dk} {er : Int} (n : Int) (hD : DiskAt F w b d) (hop : d.op + 1 ≤ 1000000) (he : d.cut n = (d', er)) :
    Calls Try.prog 17 #[.pointer (some ⟨b, 0, none⟩), .int .i64 n] w fun e w' => e = .returned (.int .i64 er) ∧ Leaves F b d' w w' := by
  have h := disk_cut n hD hop
  rwa [he] at h
theorem sync_at {F : Nat → Prop} {w : World} {b : Nat} {d d' : Dk} {er : Int} (hD : DiskAt F w b d) (hop : d.op + 1 ≤ 1000000) (he : d.sync = (d', er)) :
    Calls Try.prog 11 #[.pointer (some ⟨b, 0, none⟩)] w fun e w' => e = .returned (.int .i64 er) ∧ Leaves F b d' w w' := by
  have h := disk_sync hD hop
  rwa [he] at h
theorem crash_at {F : Nat → Prop} {w : World} {b : Nat} {d d' : Dk} (n : Int) (hD : DiskAt F w b d) (he : d.crash n = d') :
    Calls Try.prog 12 #[.pointer (some ⟨b, 0, none⟩), .int .i64 n] w fun e w' => e = .returned (.tuple #[]) ∧ Leaves F b d' w w' := by
  subst he
  exact disk_crash n hD

/-- What a call of FileFulls leaves. -/
def FullsLeft (w : World) (b : Nat) (d : Dk) (x : Ac) (A1 A2 : Option Addr) (G1 G2 : Nat → Prop) (v : Value) (wx : World) : Prop :=
  ∃ F, v = .int .i64 (fullsStep d x).2 ∧ DiskAt F wx b (fullsStep d x).1 ∧ Ours w F wx ∧ Src wx G1 1 A1 d.snap.length (u8s d.snap) ∧ Src wx G2 1 A2 d.log.length (u8s d.log)

theorem fulls_left {w w1 w2 : World} {b : Nat} {d d' : Dk} {er : Int} {x : Ac} {A1 A2 : Option Addr} {F G1 G2 : Nat → Prop} (h : fullsStep d x = (d', er)) (hD : DiskAt F w1 b d) (hO : Ours w F w1) (h1 : Src w1 G1 1 A1 d.snap.length (u8s d.snap)) (h2 : Src w1 G2 1 A2 d.log.length (u8s d.log))
    (g1 : ∀ k, G1 k → ¬ F k) (g2 : ∀ k, G2 k → ¬ F k) (hL : Leaves F b d' w1 w2) : FullsLeft w b d x A1 A2 G1 G2 (.int .i64 er) w2 :=
  ⟨_, by rw [h], by rw [h]; exact hL.1, hO.leaves hL, h1.only hL.2 g1, h2.only hL.2 g2⟩

set_option maxHeartbeats 8000000 in
set_option maxRecDepth 100000 in
theorem fulls_walk (cp : Nat) (A : Option Addr) (n c : Nat) (xs : List Ac) (w : World) (S : Nat → Prop) (hcp : cp ≤ 255) (hn : n ≤ 9223372036854775807) (hx : ActsAt w S A xs) (hl : xs.length = n) (hS : ∀ j, S j → j < w.heap.size) :
    Calls Try.prog 6 #[.int .u8 (cp : Int), .slice A n c] w fun e w' => e = .returned (.bool true) ∧ Below w.heap.size w w' := by
  cases hf : fewB xs with
  | false =>
    have HN := Lib.hid (few_no A n c xs w S hx hl hn hf)
    clear hx hl hS hf
    go_enter Try.func6, Try.ntmps6
    go_wp2_with (first | (go_at_call 20; refine HN.out.mono ?_; rintro e w' ⟨rfl, rfl⟩) | (go_at_call 14; refine (awake_any _).mono ?_; rintro e w' ⟨rfl, ho⟩))
    go_ret
    exact ⟨rfl, ho.below (Nat.le_refl _) (fun _ h => h.elim)⟩
  | true =>
    have HN := Lib.hid (few_yes A n c xs w S hx hl hf)
    have hn100 : n ≤ 100 := by simp only [fewB, Bool.and_eq_true, decide_eq_true_eq] at hf; omega
    have hsum : sumB xs ≤ 10000 := by simp only [fewB, Bool.and_eq_true, decide_eq_true_eq] at hf; omega
    have HX := Lib.hid hx
    have HL := Lib.hid hl
    have HS := Lib.hid hS
    have HSUM := Lib.hid hsum
    clear hx hl hS hf hsum
    go_enter Try.func6, Try.ntmps6
    go_wp2_with (first | (go_at_call 20; refine HN.out.mono ?_; rintro e w' ⟨rfl, rfl⟩) | (go_at_call 9; refine (disk_new (cp : Int) (by omega) _).mono ?_; rintro e w1 ⟨rfl, hD1, ho1, hz1⟩; have HD1 := Lib.hid hD1; have HO1 := Lib.hid (show Ours w (fun j => j = w.heap.size) w1 from ⟨ho1, fun j hj => by omega⟩); clear hD1 ho1 hz1))
    go_loopg [6] n (fun g s6 wx => ∃ (k : Nat) (d : Dk) (F : Nat → Prop), k ≤ n ∧ g = n - k ∧ s6 = .int .i64 (k : Int) ∧ Hid (DiskAt F wx w.heap.size d) ∧ Hid (Ours w F wx) ∧ Hid (FullsInv cp d k))
    case atStart =>
      refine ⟨0, Dk.new cp, _, by omega, by omega, rfl, HD1, HO1, Lib.hid ⟨rfl, rfl, ?_, ?_, ?_, ?_⟩⟩
      · show max 0 (cp : Int) = cp
        omega
      · simp [Dk.new]
      · simp [Dk.new]
      · simp [Dk.new]
    case round =>
      obtain ⟨k, d, F, hk, hg, rfl, HD, HO, HI⟩ := hrel
      by_cases hlt : k < n
      · obtain ⟨x, hx⟩ : ∃ x, xs[k]? = some x := ⟨_, List.getElem?_eq_getElem (by have := HL.out; omega)⟩
        have hxl : x.len ≤ 10001 := by
          have h1 := sumB_take xs k x hx
          have h2 : sumB (xs.take (k + 1)) ≤ sumB xs := by
            have := sumB_append (xs.take (k + 1)) (xs.drop (k + 1))
            rw [List.take_append_drop] at this
            omega
          have := HSUM.out
          omega
        have HXE := Lib.hid hx
        have HG := Lib.hid hg
        clear hx hg
        go_wp2_with fail
        refine (disk_read HD.out).mono ?_
        rintro e w2 ⟨v1, v2, rfl, G1, G2, r1, r2, g1, g2, g3, ho2⟩
        have hdw := HI.out.dw
        rw [hdw] at r1 r2
        have r1' : Row w2 G1 5 1 v1 d.snap.length (u8s d.snap) := r1
        have r2' : Row w2 G2 5 1 v2 d.log.length (u8s d.log) := r2
        obtain ⟨A1, c1', hv1⟩ := r1'.shape
        obtain ⟨A2, c2', hv2⟩ := r2'.shape
        subst hv1
        subst hv2
        have S1 := Lib.hid r1'.src
        have S2 := Lib.hid r2'.src
        have HD2 := Lib.hid (HD.out.only ho2 (fun _ _ h => h))
        have HO2 := Lib.hid (HO.out.quiet ho2)
        have X1 := Lib.hid (show ∀ j, G1 j → ¬ F j from fun j hj hF => by have := (g1 j hj).1; have := HD.out.lt j hF; omega)
        have X2 := Lib.hid (show ∀ j, G2 j → ¬ F j from fun j hj hF => by have := (g2 j hj).1; have := HD.out.lt j hF; omega)
        obtain ⟨b, o, hA, hc⟩ := (HX.out.only HO2.out.only (fun _ _ h => h)) (by have := HL.out; omega)
        have ha := hc k x HXE.out
        have a0 := ha.c0
        have a1 := ha.c1
        have a2 := ha.c2
        have HA := Lib.hid ha
        have hb0 := ha.kind
        have hb1 := ha.cap
        have hb2 := ha.cap63
        subst hA
        clear hdw r1 r2 r1' r2' g1 g2 g3 ho2 hc ha
        go_upto_block 2 with fail
        go_cut [9] from 19 to 111 (fun s9 wx => Hid (FullsLeft w w.heap.size d x A1 A2 G1 G2 s9 wx))
        case first =>
          obtain ⟨d', er, he⟩ : ∃ d' er, fullsStep d x = (d', er) := ⟨_, _, rfl⟩
          have HE := Lib.hid he
          have he2 := he
          unfold fullsStep at he2
          rcases (show x.kind % 7 = 0 ∨ x.kind % 7 = 1 ∨ x.kind % 7 = 2 ∨ x.kind % 7 = 3 ∨ x.kind % 7 = 4 ∨ x.kind % 7 = 5 ∨ x.kind % 7 = 6 by omega) with hq | hq | hq | hq | hq | hq | hq
          · rw [if_neg (by omega), if_neg (by omega), if_neg (by omega), if_neg (by omega)] at he2
            have HE2 := Lib.hid he2
            have hr : ((x.kind : Int) % 7) = 0 := by omega
            clear he he2 hq
            go_wp2_with (go_at_call 10; refine (append_at x.A x.z x.len x.cap HA.out.zl HD2.out HA.out.src (fun j hj hF => by have := HS.out j hj; have := HO2.out.new j hF; omega) (by have := HD2.out.ok.log; have := HI.out.room; have := HI.out.cp; have := HA.out.zl; omega) (by have := HI.out.op; omega) HE2.out).mono ?_; rintro e w3 ⟨rfl, hL⟩; have HLL := Lib.hid hL; clear hL)
            go_meet
            case rel => exact Lib.hid (fulls_left HE.out HD2.out HO2.out S1.out S2.out X1.out X2.out HLL.out)
          · rw [if_neg (by omega), if_neg (by omega), if_neg (by omega), if_neg (by omega)] at he2
            have HE2 := Lib.hid he2
            have hr : ((x.kind : Int) % 7) = 1 := by omega
            clear he he2 hq
            go_wp2_with (go_at_call 10; refine (append_at x.A x.z x.len x.cap HA.out.zl HD2.out HA.out.src (fun j hj hF => by have := HS.out j hj; have := HO2.out.new j hF; omega) (by have := HD2.out.ok.log; have := HI.out.room; have := HI.out.cp; have := HA.out.zl; omega) (by have := HI.out.op; omega) HE2.out).mono ?_; rintro e w3 ⟨rfl, hL⟩; have HLL := Lib.hid hL; clear hL)
            go_meet
            case rel => exact Lib.hid (fulls_left HE.out HD2.out HO2.out S1.out S2.out X1.out X2.out HLL.out)
          · rw [if_pos hq] at he2
            have HE2 := Lib.hid he2
            have hr : ((x.kind : Int) % 7) = 2 := by omega
            clear he he2 hq
            go_wp2_with (go_at_call 17; refine (cut_at x.n HD2.out (by have := HI.out.op; omega) HE2.out).mono ?_; rintro e w3 ⟨rfl, hL⟩; have HLL := Lib.hid hL; clear hL)
            go_meet
            case rel => exact Lib.hid (fulls_left HE.out HD2.out HO2.out S1.out S2.out X1.out X2.out HLL.out)
          · rw [if_neg (by omega), if_pos hq] at he2
            have HE2 := Lib.hid he2
            have hr : ((x.kind : Int) % 7) = 3 := by omega
            clear he he2 hq
            go_wp2_with (go_at_call 11; refine (sync_at HD2.out (by have := HI.out.op; omega) HE2.out).mono ?_; rintro e w3 ⟨rfl, hL⟩; have HLL := Lib.hid hL; clear hL)
            go_meet
            case rel => exact Lib.hid (fulls_left HE.out HD2.out HO2.out S1.out S2.out X1.out X2.out HLL.out)
          · rw [if_neg (by omega), if_neg (by omega), if_pos hq] at he2
            have HE2 := Lib.hid he2
            have hr : ((x.kind : Int) % 7) = 4 := by omega
            clear he he2 hq
            go_wp2_with (go_at_call 15; refine (swap_at x.A x.z x.len x.cap HA.out.zl HA.out.bare HD2.out HA.out.src (fun j hj hF => by have := HS.out j hj; have := HO2.out.new j hF; omega) (by have := HA.out.zl; omega) (by have := HI.out.op; omega) HE2.out).mono ?_; rintro e w3 ⟨rfl, hL⟩; have HLL := Lib.hid hL; clear hL)
            go_meet
            case rel => exact Lib.hid (fulls_left HE.out HD2.out HO2.out S1.out S2.out X1.out X2.out HLL.out)
          · rw [if_neg (by omega), if_neg (by omega), if_neg (by omega), if_neg (by omega)] at he2
            have HE2 := Lib.hid he2
            have hr : ((x.kind : Int) % 7) = 5 := by omega
            clear he he2 hq
            go_wp2_with (go_at_call 10; refine (append_at x.A x.z x.len x.cap HA.out.zl HD2.out HA.out.src (fun j hj hF => by have := HS.out j hj; have := HO2.out.new j hF; omega) (by have := HD2.out.ok.log; have := HI.out.room; have := HI.out.cp; have := HA.out.zl; omega) (by have := HI.out.op; omega) HE2.out).mono ?_; rintro e w3 ⟨rfl, hL⟩; have HLL := Lib.hid hL; clear hL)
            go_meet
            case rel => exact Lib.hid (fulls_left HE.out HD2.out HO2.out S1.out S2.out X1.out X2.out HLL.out)
          · rw [if_neg (by omega), if_neg (by omega), if_neg (by omega), if_pos hq] at he2
            have HE2 := Lib.hid he2
            have hr : ((x.kind : Int) % 7) = 6 := by omega
            clear he he2 hq
            obtain rfl : er = 0 := (congrArg Prod.snd HE2.out).symm
            go_wp2_with (go_at_call 12; refine (crash_at x.n HD2.out (congrArg Prod.fst HE2.out)).mono ?_; rintro e w3 ⟨rfl, hL⟩; have HLL := Lib.hid hL; clear hL)
            go_meet
            case rel => exact Lib.hid (fulls_left HE.out HD2.out HO2.out S1.out S2.out X1.out X2.out HLL.out)
        case rest =>
          obtain ⟨F', hu9, gD, gO, q1, q2⟩ := hcut.out
          obtain ⟨fi, hor⟩ := fulls_step x HI.out
          generalize fullsStep d x = de at hu9 gD gO fi hor
          obtain ⟨d1, er⟩ := de
          simp only [] at hu9 gD fi hor
          subst hu9
          have GD := Lib.hid gD
          have GO := Lib.hid gO
          have Q1 := Lib.hid q1
          have Q2 := Lib.hid q2
          have FI := Lib.hid fi
          have OR := Lib.hid hor
          clear gD gO q1 q2 fi hor hcut a0 a1 a2 hb0 hb1 hb2
          go_wp2_with fail
          refine (disk_read GD.out).mono ?_
          rintro e w4 ⟨v3, v4, rfl, G3, G4, r1, r2, g1, g2, g3, ho4⟩
          have hdw := FI.out.dw
          rw [hdw] at r1 r2
          have r1' : Row w4 G3 5 1 v3 d1.snap.length (u8s d1.snap) := r1
          have r2' : Row w4 G4 5 1 v4 d1.log.length (u8s d1.log) := r2
          obtain ⟨A3, c3', hv3⟩ := r1'.shape
          obtain ⟨A4, c4', hv4⟩ := r2'.shape
          subst hv3
          subst hv4
          have t1 := conv_str c3' r1'.src
          have t2 := conv_str c4' r2'.src
          have t3 := conv_str c1' (Q1.out.only ho4 (fun _ _ h => h))
          have t4 := conv_str c2' (Q2.out.only ho4 (fun _ _ h => h))
          have GD4 := Lib.hid (GD.out.only ho4 (fun _ _ h => h))
          have GO4 := Lib.hid (GO.out.quiet ho4)
          have k1 : d1.snap.length ≤ cp := by have := FI.out.room; omega
          have k2 : (d1.log.length : Int) ≤ (cp : Int) - (d1.snap.length : Int) := by have := FI.out.room; omega
          have k3 : d1.log.length ≤ cp := by have := FI.out.room; omega
          clear hdw r1 r2 r1' r2' g1 g2 g3 ho4
          rcases OR.out with rfl | ⟨rfl | rfl, rfl⟩
          all_goals
            go_wp2
            go_roundg (n - (k + 1))
            case measure => have := HG.out; omega
            case rel => exact ⟨k + 1, d1, F', by omega, rfl, by go_num, GD4, GO4, FI⟩
      · obtain rfl : k = n := by omega
        clear hg
        go_wp2_with (go_at_call 14; refine (awake_any _).mono ?_; rintro e w' ⟨rfl, ho⟩)
        go_ret
        exact ⟨rfl, (HO.out.only.trans ho (fun _ h _ => h)).below (Nat.le_refl _) (fun _ h => h.elim)⟩
end Go.Proofs.Ytibeblibminjfaa
