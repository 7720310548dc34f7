/- The disk's methods over plain data, whole; Read, Crash, Fail, New, Fork. -/
import Derived.Test.YtibeblibminjfaaDiskE
namespace Go.Proofs.Ytibeblibminjfaa
open Go.RowKit
set_option linter.unusedVariables false

section
variable {F S : Nat → Prop} {w w' : World} {b : Nat} {d : Dk}
theorem disk_append (A : Option Addr) (l : List Int) (c : Nat) (hD : DiskAt F w b d) (hs : Src w S 1 A l.length (u8s l)) (hSF : ∀ k, S k → ¬ F k) (hl : d.log.length + l.length ≤ 100000000) (hop : d.op + 1 ≤ 1000000) :
    Calls Try.prog 10 #[.pointer (some ⟨b, 0, none⟩), .slice A l.length c] w fun e w' => e = .returned (.int .i64 (d.append l).2) ∧ Leaves F b (d.append l).1 w w' := by
  cases h : d.dw with
  | false => exact disk_append_up A l c hD h hs hSF hl hop
  | true => simpa [Dk.append, h] using disk_append_down A l c hD h
theorem disk_swap (A : Option Addr) (l : List Int) (c : Nat) (hD : DiskAt F w b d) (hA : A = none → l.length = 0 ∧ c = 0) (hs : Src w S 1 A l.length (u8s l)) (hSF : ∀ k, S k → ¬ F k) (hl : l.length ≤ 100000000) (hop : d.op + 1 ≤ 1000000) :
    Calls Try.prog 15 #[.pointer (some ⟨b, 0, none⟩), .slice A l.length c] w fun e w' => e = .returned (.int .i64 (d.swap l).2) ∧ Leaves F b (d.swap l).1 w w' := by
  cases h : d.dw with
  | false => exact disk_swap_up A l c hD h hA hs hSF hl hop
  | true => simpa [Dk.swap, h] using disk_swap_down A l c hD h
theorem disk_sync (hD : DiskAt F w b d) (hop : d.op + 1 ≤ 1000000) :
    Calls Try.prog 11 #[.pointer (some ⟨b, 0, none⟩)] w fun e w' => e = .returned (.int .i64 d.sync.2) ∧ Leaves F b d.sync.1 w w' := by
  cases h : d.dw with
  | false => exact disk_sync_up hD h hop
  | true => simpa [Dk.sync, h] using disk_sync_down hD h
theorem disk_cut (n : Int) (hD : DiskAt F w b d) (hop : d.op + 1 ≤ 1000000) :
    Calls Try.prog 17 #[.pointer (some ⟨b, 0, none⟩), .int .i64 n] w fun e w' => e = .returned (.int .i64 (d.cut n).2) ∧ Leaves F b (d.cut n).1 w w' := by
  cases h : d.dw with
  | false => exact disk_cut_up n hD h hop
  | true => simpa [Dk.cut, h] using disk_cut_down n hD h

theorem disk_fail (n : Int) (dn : Bool) (hD : DiskAt F w b d) (hn : n ≤ 9223372036854775807) :
    Calls Try.prog 16 #[.pointer (some ⟨b, 0, none⟩), .int .i64 n, .bool dn] w fun e w' => e = .returned (.int .i64 (d.fail n dn).2) ∧ Leaves F b (d.fail n dn).1 w w' := by
  have hD0 := hD
  obtain ⟨vs, vl, Fs, Fl, h1, h2, h3, h4, h5, h6, h7, h8⟩ := hD
  unfold Dk.fail
  cases h : d.dw with
  | true =>
    rw [h] at h1
    rw [if_pos rfl]
    refine (fail_down b n dn w (dcells_at h1).2.2.2.2).mono fun e w' hh => ⟨hh.1, ?_⟩
    obtain ⟨_, rfl⟩ := hh
    exact leaves_quiet hD0 (Only.refl _ _)
  | false =>
    rw [h] at h1
    rw [if_neg (by simp)]
    rcases Int.lt_or_le n 0 with hneg | hneg
    · rw [if_pos hneg]
      refine (fail_arg b n dn w hneg (dcells_at h1).2.2.2.2).mono fun e w' hh => ⟨hh.1, ?_⟩
      obtain ⟨_, rfl⟩ := hh
      exact leaves_quiet hD0 (Only.refl _ _)
    · rw [if_neg (by omega)]
      refine (fail_ok b n dn _ _ w hneg (dcells_at h1).2.2.2.2 (dcells_at h1).2.2.1 (h1.free 5) (dcells_at h1).2.2.2.1 (h1.free 6)).mono fun e w' hh => ⟨hh.1, ?_⟩
      obtain ⟨_, rfl⟩ := hh
      have ho : Only (fun k => k = b) w ((w.setCell ⟨b, 5, none⟩ (.int .i64 n)).setCell ⟨b, 6, none⟩ (.bool dn)) := ((Only.refl (fun k => k = b) w).setCell (p := ⟨b, 5, none⟩) (fun _ => rfl) _).setCell (p := ⟨b, 6, none⟩) (fun _ => rfl) _
      refine ⟨plus_same (by simp [World.setCell]) (disk_store (d := d) h2 h3 h4 h5 h6 h7 ho ?_ rfl rfl ⟨h8.sf, h8.log, h8.snap, h8.cp0, h8.cp1, h8.op, by show -1 ≤ n; omega, hn⟩), ho.mono (fun j hj _ => by subst hj; exact h6)⟩
      simpa [dcells, h] using (h1.set_ 5 (.int .i64 n)).set_ 6 (.bool dn)

theorem disk_crash (k : Int) (hD : DiskAt F w b d) :
    Calls Try.prog 12 #[.pointer (some ⟨b, 0, none⟩), .int .i64 k] w fun e w' => e = .returned (.tuple #[]) ∧ Leaves F b (d.crash k) w w' := by
  obtain ⟨vs, vl, Fs, Fl, h1, h2, h3, h4, h5, h6, h7, h8⟩ := hD
  have h30 := h3
  obtain ⟨_, A0, c, hv, hc, hcm, hrest⟩ := h3
  subst hv
  have hm : d.sf + min (max k 0).toNat (d.log.length - d.sf) ≤ d.log.length := by have := h8.sf; omega
  refine (crash_any b d.log.length c d.sf k A0 vs d.cp d.op d.fu d.dn d.dw w h1 h8.sf (by have := h8.log; omega) hc).mono fun e w' hh => ⟨hh.1, ?_⟩
  obtain ⟨_, j, m, hmm, rfl⟩ := hh
  rw [← hmm] at hm
  obtain ⟨A, c', he, hrow⟩ := h30.cutAt hm
  injection he with e1 e2 e3
  subst e1
  subst e3
  have ho : Only (fun k => k = b) w (((((w.setCell ⟨b, 2, none⟩ (.int .i64 (m : Nat))).setCell ⟨b, 1, none⟩ (.slice A0 m m)).setCell ⟨b, 5, none⟩ (.int .i64 (-1))).setCell ⟨b, 7, none⟩ (.bool false)).drewN j) :=
    (((((Only.refl (fun k => k = b) w).setCell (p := ⟨b, 2, none⟩) (fun _ => rfl) _).setCell (p := ⟨b, 1, none⟩) (fun _ => rfl) _).setCell (p := ⟨b, 5, none⟩) (fun _ => rfl) _).setCell (p := ⟨b, 7, none⟩) (fun _ => rfl) _).drewN j
  refine ⟨plus_same (by simp [World.setCell]) ⟨vs, .slice A0 m m, Fs, Fl, ?_, h2.only ho (fun k hk => (h4 k hk).2.1), ?_, h4, h5, h6, fun k hk => Nat.lt_of_lt_of_le (h7 k hk) ho.size, ?_⟩, ho.mono (fun j hj _ => by subst hj; exact h6)⟩
  · simpa [dcells, Dk.crash, ← hmm] using ((((h1.set_ 2 (.int .i64 (m : Nat))).set_ 1 (.slice A0 m m)).set_ 5 (.int .i64 (-1))).set_ 7 (.bool false)).drewN j
  · show Row _ Fl _ 1 _ (d.log.take (d.sf + min (max k 0).toNat (d.log.length - d.sf))).length (u8s (d.log.take (d.sf + min (max k 0).toNat (d.log.length - d.sf))))
    rw [← hmm, u8s_take, List.length_take, Nat.min_eq_left hm]
    simpa using hrow.only ho (fun k hk => (h5 k hk).2)
  · refine ⟨?_, ?_, h8.snap, h8.cp0, h8.cp1, h8.op, by show (-1 : Int) ≤ -1; omega, by show (-1 : Int) ≤ _; omega⟩
    · show d.sf + min (max k 0).toNat (d.log.length - d.sf) ≤ (d.log.take (d.sf + min (max k 0).toNat (d.log.length - d.sf))).length
      rw [← hmm, List.length_take]
      omega
    · show (d.log.take _).length ≤ _
      rw [List.length_take]
      have := h8.log
      omega

/-- A new disk. -/
def Dk.new (n : Int) : Dk := { snap := [], log := [], sf := 0, cp := max 0 n, op := 0, fu := -1, dn := false, dw := false }
theorem disk_new (n : Int) (hn : n ≤ 9223372036854775807) (w : World) :
    Calls Try.prog 9 #[.int .i64 n] w fun e w' => e = .returned (.pointer (some ⟨w.heap.size, 0, none⟩)) ∧ (DiskAt (fun k => k = w.heap.size) w' w.heap.size (Dk.new n) ∧ Only Noth w w' ∧ w'.heap.size = w.heap.size + 1) := by
  refine (new_any n w).mono fun e w' h => ⟨h.1, ?_⟩
  obtain ⟨_, rfl⟩ := h
  refine ⟨⟨.slice none 0 0, .slice none 0 0, Noth, Noth, Hld.new w _ _, Row.nil _ _ _ _, Row.nil _ _ _ _, fun k h => h.elim, fun k h => h.elim, rfl, fun k hk => by subst hk; simp, ?_⟩, (Only.refl Noth w).alloc _, by simp⟩
  exact ⟨by simp [Dk.new], by simp [Dk.new], by simp [Dk.new], by simp [Dk.new]; omega, by simp [Dk.new]; omega, by simp [Dk.new], by simp [Dk.new], by simp [Dk.new]⟩

theorem disk_safe (hD : DiskAt F w b d) : Calls Try.prog 19 #[.pointer (some ⟨b, 0, none⟩)] w fun e w' => e = .returned (.int .i64 (d.sf : Int)) ∧ w = w' := by
  obtain ⟨vs, vl, Fs, Fl, h1, _⟩ := hD
  exact safe_any b d.sf w (dcells_at h1).1.2.2.1
theorem disk_ops (hD : DiskAt F w b d) : Calls Try.prog 24 #[.pointer (some ⟨b, 0, none⟩)] w fun e w' => e = .returned (.int .i64 (d.op : Int)) ∧ w = w' := by
  obtain ⟨vs, vl, Fs, Fl, h1, _⟩ := hD
  exact ops_any b d.op w (dcells_at h1).2.1
theorem disk_down (hD : DiskAt F w b d) : Calls Try.prog 25 #[.pointer (some ⟨b, 0, none⟩)] w fun e w' => e = .returned (.bool d.dw) ∧ w = w' := by
  obtain ⟨vs, vl, Fs, Fl, h1, _⟩ := hD
  exact down_any b d.dw w (dcells_at h1).2.2.2.2

/-- Two rows of the call's own, apart from each other and from all that was. -/
def TwoRows (w w' : World) (v1 v2 : Value) (l1 l2 : List Int) : Prop :=
  ∃ G1 G2 : Nat → Prop, Row w' G1 5 1 v1 l1.length (u8s l1) ∧ Row w' G2 5 1 v2 l2.length (u8s l2) ∧ (∀ k, G1 k → w.heap.size ≤ k ∧ k < w'.heap.size) ∧ (∀ k, G2 k → w.heap.size ≤ k ∧ k < w'.heap.size) ∧ (∀ k, G1 k → ¬ G2 k) ∧ Only Noth w w'

theorem two_rows {w1 w2 : World} {v1 v2 : Value} {l1 l2 : List Int} (h1 : Cloned 5 l1.length (u8s l1) v1 w w1) (h2 : Cloned 5 l2.length (u8s l2) v2 w1 w2) : TwoRows w w2 v1 v2 l1 l2 :=
  ⟨Plus Noth w w1, Plus Noth w1 w2, h1.1.only h2.2 (fun _ _ h => h), h2.1, fun k hk => by
      rcases hk with hk | hk
      · exact hk.elim
      · have := h2.2.size
        exact ⟨hk.1, by omega⟩, fun k hk => by
      rcases hk with hk | hk
      · exact hk.elim
      · have := h1.2.size
        exact ⟨by omega, hk.2⟩, fun k hk hg => by
      rcases hk with hk | hk
      · exact hk
      · rcases hg with hg | hg
        · exact hg
        · omega, h1.2.trans h2.2 (fun _ h _ => h)⟩
theorem two_rows' {w1 w2 : World} {v1 v2 : Value} {l1 l2 : List Int} (h2 : Cloned 5 l2.length (u8s l2) v2 w w1) (h1 : Cloned 5 l1.length (u8s l1) v1 w1 w2) : TwoRows w w2 v1 v2 l1 l2 := by
  obtain ⟨G1, G2, a, b, c, d, e, f⟩ := two_rows h2 h1
  exact ⟨G2, G1, b, a, d, c, fun k hk hg => e k hg hk, f⟩

theorem two_hid {w1 w2 : World} {v1 v2 : Value} {l1 l2 : List Int} (h1 : Hid (Cloned 5 l1.length (u8s l1) v1 w.drew w1)) (h2 : Hid (Cloned 5 l2.length (u8s l2) v2 w1 w2)) : TwoRows w w2 v1 v2 l1 l2 := two_rows h1.out.undrew h2.out
theorem two_hid' {w1 w2 : World} {v1 v2 : Value} {l1 l2 : List Int} (h2 : Hid (Cloned 5 l2.length (u8s l2) v2 w.drew w1)) (h1 : Hid (Cloned 5 l1.length (u8s l1) v1 w1 w2)) : TwoRows w w2 v1 v2 l1 l2 := two_rows' h2.out.undrew h1.out

theorem disk_read_down (hD : DiskAt F w b d) (hdw : d.dw = true) :
    Calls Try.prog 13 #[.pointer (some ⟨b, 0, none⟩)] w fun e w' => e = .returned (.tuple #[.slice none 0 0, .slice none 0 0]) ∧ w = w' := by
  obtain ⟨vs, vl, Fs, Fl, h1, _⟩ := hD
  rw [hdw] at h1
  have c7 := (dcells_at h1).2.2.2.2
  clear h1 hdw
  go_enter Try.func13, Try.ntmps13
  go_wp2_with (go_at_call 26; refine (up_down _ _ (by assumption)).mono ?_; rintro e w' ⟨rfl, rfl⟩)
  go_ret2
  exact ⟨rfl, rfl⟩

theorem row_bare {F : Nat → Prop} {e : TypeId} {size n c : Nat} {A : Option Addr} {xs : List Value} (h : Row w F e size (.slice A n c) n xs) : A = none → n = 0 ∧ c = 0 := by
  rintro rfl
  obtain ⟨_, A, cap, hv, h1, h2, h3⟩ := h
  injection hv with e1 e2 e3
  subst e1
  subst e3
  rcases h3 with h3 | ⟨g, cur, hA, _⟩
  · exact ⟨by omega, h3⟩
  · cases hA

theorem disk_read_up (hD : DiskAt F w b d) (hdw : d.dw = false) :
    Calls Try.prog 13 #[.pointer (some ⟨b, 0, none⟩)] w fun e w' => ∃ v1 v2, e = .returned (.tuple #[v1, v2]) ∧ TwoRows w w' v1 v2 d.snap d.log := by
  obtain ⟨vs, vl, Fs, Fl, h1, h2, h3, h4, h5, h6, h7, h8⟩ := hD
  obtain ⟨As, cs, rfl⟩ := h2.shape
  obtain ⟨Al, cl, rfl⟩ := h3.shape
  rw [hdw] at h1
  have cells : ∀ W, Only Noth w W → W.cell? ⟨b, 0, none⟩ = some (.slice As d.snap.length cs) ∧ W.cell? ⟨b, 1, none⟩ = some (.slice Al d.log.length cl) := fun W ho =>
    ⟨(dcells_at (h1.only ho (fun h => h))).1.1, (dcells_at (h1.only ho (fun h => h))).1.2.1⟩
  have c7 := (dcells_at h1).2.2.2.2
  have c0 := (dcells_at h1).1.1
  have c1 := (dcells_at h1).1.2.1
  have HS := Lib.hid (fun W (ho : Only Noth w W) => clone_any As d.snap.length cs Fs (u8s d.snap) W (row_bare h2) ((h2.src).only ho (fun _ _ h => h)) (u8s_one _) (by have := h8.snap; omega))
  have HL := Lib.hid (fun W (ho : Only Noth w W) => clone_any Al d.log.length cl Fl (u8s d.log) W (row_bare h3) ((h3.src).only ho (fun _ _ h => h)) (u8s_one _) (by have := h8.log; omega))
  have HC := Lib.hid cells
  have HO : Only Noth w w.drew := (Only.refl _ _).drew
  clear h1 h2 h3 h4 h5 h6 h7 h8 hdw cells
  go_enter Try.func13, Try.ntmps13
  go_wp2_with (go_at_call 26; refine (up_ok _ _ (by assumption)).mono ?_; rintro e w' ⟨rfl, rfl⟩)
  go_region_with (go_at_call 30; (first | (with_reducible refine (HS.out _ (by assumption)).mono ?_) | (with_reducible refine (HL.out _ (by assumption)).mono ?_)); rintro e w1 ⟨v, rfl, hcl⟩; have hon := hcl.2; have ho1 : Only Noth w w1 := (Only.trans (by assumption) hon (fun _ h _ => h)); have hc0 := (HC.out w1 ho1).1; have hc1 := (HC.out w1 ho1).2; have HCL := Lib.hid hcl; clear hcl hon)
  all_goals go_wp2
  all_goals go_ret2
  all_goals (refine ⟨_, _, rfl, ?_⟩; first | exact two_hid (by assumption) (by assumption) | exact two_hid' (by assumption) (by assumption))

theorem disk_read (hD : DiskAt F w b d) :
    Calls Try.prog 13 #[.pointer (some ⟨b, 0, none⟩)] w fun e w' => ∃ v1 v2, e = .returned (.tuple #[v1, v2]) ∧ TwoRows w w' v1 v2 (if d.dw then [] else d.snap) (if d.dw then [] else d.log) := by
  cases h : d.dw with
  | false => exact disk_read_up hD h
  | true =>
    refine (disk_read_down hD h).mono fun e w' hh => ⟨_, _, hh.1, ?_⟩
    obtain ⟨_, rfl⟩ := hh
    exact ⟨Noth, Noth, Row.nil _ _ _ _, Row.nil _ _ _ _, fun _ h => h.elim, fun _ h => h.elim, fun _ h => h.elim, Only.refl _ _⟩

theorem read_nil (w : World) : Calls Try.prog 13 #[.pointer none] w fun e w' => e = .returned (.tuple #[.slice none 0 0, .slice none 0 0]) ∧ w = w' := by
  go_enter Try.func13, Try.ntmps13
  go_wp2_with (go_at_call 26; refine (up_nil _).mono ?_; rintro e w' ⟨rfl, rfl⟩)
  go_ret2
  exact ⟨rfl, rfl⟩
end
end Go.Proofs.Ytibeblibminjfaa
