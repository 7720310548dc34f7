/- The disk's methods over plain data. -/
import Derived.Test.YtibeblibminjfaaDiskD
namespace Go.Proofs.Ytibeblibminjfaa
open Go.RowKit
set_option linter.unusedVariables false

theorem enter_append (cap : Array Value) : ∀ W, (callFunc 28 cap).run Try.prog W = .ok (.enter 28 cap) W := by
  intro W
  have h := Try.func28
  go_simp
theorem enter_sync (cap : Array Value) : ∀ W, (callFunc 29 cap).run Try.prog W = .ok (.enter 29 cap) W := by
  intro W
  have h := Try.func29
  go_simp
theorem enter_cut (cap : Array Value) : ∀ W, (callFunc 32 cap).run Try.prog W = .ok (.enter 32 cap) W := by
  intro W
  have h := Try.func32
  go_simp
theorem enter_swap (cap : Array Value) : ∀ W, (callFunc 31 cap).run Try.prog W = .ok (.enter 31 cap) W := by
  intro W
  have h := Try.func31
  go_simp

theorem cell_box1 (w : World) (v : Value) (t : TypeId) (n : Nat) : ((w.alloc (.cells #[v] t)).drewN n).cell? ⟨w.heap.size, 0, none⟩ = some v := ((Hld.new w t #[v]).drewN n).cell 0
theorem cell_box2a (w : World) (v : Value) (t : TypeId) (o : Obj) (n : Nat) : (((w.alloc (.cells #[v] t)).alloc o).drewN n).cell? ⟨w.heap.size, 0, none⟩ = some v := (((Hld.new w t #[v]).alloc o).drewN n).cell 0
theorem cell_box2b (w : World) (v : Value) (t : TypeId) (o : Obj) (n : Nat) : (((w.alloc o).alloc (.cells #[v] t)).drewN n).cell? ⟨w.heap.size + 1, 0, none⟩ = some v := by
  have h := (((Hld.new (w.alloc o) t #[v]).drewN n).cell 0)
  rw [show (w.alloc o).heap.size = w.heap.size + 1 by simp] at h
  exact h

section
variable {F S : Nat → Prop} {w w' : World} {b : Nat} {d : Dk}
theorem leaves_quiet (hD : DiskAt F w b d) (ho : Only Noth w w') : Leaves F b d w w' := by
  have h := hD.only ho (fun _ _ h => h)
  refine ⟨h.more (fun k hk => .inl hk) (fun k hk => ?_), ho.mono (fun _ h _ => h.elim)⟩
  rcases hk with hk | hk
  · obtain ⟨_, _, _, _, _, _, _, _, _, _, h7, _⟩ := h
    exact h7 k hk
  · exact hk.2
theorem leaves_later {W : World} {d' : Dk} (ho : Only Noth w W) (hl : Leaves F b d' W w') : Leaves F b d' w w' := by
  refine ⟨hl.1.more (fun k hk => ?_) (fun k hk => ?_), (ho.mono (fun _ h _ => h.elim)).trans hl.2 (fun _ h _ => h)⟩
  · rcases hk with hk | hk
    · exact .inl hk
    · exact .inr ⟨Nat.le_trans ho.size hk.1, hk.2⟩
  · have hlt : ∀ k, Plus F W w' k → k < w'.heap.size := by
      obtain ⟨_, _, _, _, _, _, _, _, _, _, h7, _⟩ := hl.1
      exact h7
    rcases hk with hk | hk
    · exact hlt k (.inl hk)
    · exact hk.2

theorem disk_append_down (A : Option Addr) (l : List Int) (c : Nat) (hD : DiskAt F w b d) (hdw : d.dw = true) :
    Calls Try.prog 10 #[.pointer (some ⟨b, 0, none⟩), .slice A l.length c] w fun e w' => e = .returned (.int .i64 12) ∧ Leaves F b d w w' := by
  have HD := Lib.hid hD
  obtain ⟨vs, vl, Fs, Fl, h1, h2, h3, h4, h5, h6, h7, h8⟩ := hD
  rw [hdw] at h1
  have c7 := (dcells_at ((h1.alloc (.cells #[.pointer (some ⟨b, 0, none⟩)] 23)).alloc (.cells #[.slice A l.length c] 22))).2.2.2.2
  have ho := Lib.hid (((Only.refl Noth w).alloc (.cells #[.pointer (some ⟨b, 0, none⟩)] 23)).alloc (.cells #[.slice A l.length c] 22))
  clear h1 h2 h3 h4 h5 h6 h7 h8 hdw
  go_enter Try.func10, Try.ntmps10
  go_wp2_with (go_at_call 26; refine (up_down _ _ (by assumption)).mono ?_; rintro e w' ⟨rfl, rfl⟩)
  go_ret
  exact ⟨rfl, leaves_quiet HD.out ho.out⟩

theorem disk_append_up (A : Option Addr) (l : List Int) (c : Nat) (hD : DiskAt F w b d) (hdw : d.dw = false) (hs : Src w S 1 A l.length (u8s l)) (hSF : ∀ k, S k → ¬ F k) (hl : d.log.length + l.length ≤ 100000000) (hop : d.op + 1 ≤ 1000000) :
    Calls Try.prog 10 #[.pointer (some ⟨b, 0, none⟩), .slice A l.length c] w fun e w' => e = .returned (.int .i64 (d.append l).2) ∧ Leaves F b (d.append l).1 w w' := by
  have HD := Lib.hid hD
  have HD2 := Lib.hid ((hD.alloc (.cells #[.pointer (some ⟨b, 0, none⟩)] 23)).alloc (.cells #[.slice A l.length c] 22))
  have HS := Lib.hid hs
  have HSF := Lib.hid hSF
  clear hs hSF
  obtain ⟨vs, vl, Fs, Fl, h1, h2, h3, h4, h5, h6, h7, h8⟩ := hD
  obtain ⟨As, cs, rfl⟩ := h2.shape
  obtain ⟨Al, cl, rfl⟩ := h3.shape
  rw [hdw] at h1
  have HF : ∀ k, F k → k < w.heap.size := h7
  have HFW := Lib.hid HF
  have HB := Lib.hid h1.lt
  obtain ⟨⟨c0, c1, c2, c3⟩, c4, c5, c6, c7⟩ := dcells_at ((h1.alloc (.cells #[.pointer (some ⟨b, 0, none⟩)] 23)).alloc (.cells #[.slice A l.length c] 22))
  have ho := Lib.hid (((Only.refl Noth w).alloc (.cells #[.pointer (some ⟨b, 0, none⟩)] 23)).alloc (.cells #[.slice A l.length c] 22))
  have b1 := h8.cp0
  have b2 := h8.cp1
  have b3 := h8.snap
  have b4 := h8.log
  have HOP := Lib.hid hop
  have HDW := Lib.hid hdw
  have HCL : ∀ nq W d1, DiskAt F W b d1 → Only (fun k => k = b) (((w.alloc (.cells #[.pointer (some ⟨b, 0, none⟩)] 23)).alloc (.cells #[.slice A l.length c] 22)).drewN nq) W → W.heap.size = (((w.alloc (.cells #[.pointer (some ⟨b, 0, none⟩)] 23)).alloc (.cells #[.slice A l.length c] 22)).drewN nq).heap.size → d1 = { d with op := d.op + 1, fu := max (-1) (d.fu - 1) } →
      Calls Try.prog 28 #[.pointer (some ⟨w.heap.size, 0, none⟩), .pointer (some ⟨w.heap.size + 1, 0, none⟩)] W fun e w' => e = .returned (.tuple #[]) ∧ Leaves F b (Dk.addLog l d1) W w' := by
    intro nq W d1 g1 g2 g3 g4
    have hbl := HB.out
    have z1 : W.cell? ⟨w.heap.size, 0, none⟩ = some (.pointer (some ⟨b, 0, none⟩)) := by
      rw [g2.cell (p := ⟨w.heap.size, 0, none⟩) (by simp <;> omega) (by simp only []; omega)]; exact cell_box2a _ _ _ _ _
    have z2 : W.cell? ⟨w.heap.size + 1, 0, none⟩ = some (.slice A l.length c) := by
      rw [g2.cell (p := ⟨w.heap.size + 1, 0, none⟩) (by simp) (by simp only []; omega)]; exact cell_box2b _ _ _ _ _
    have z3 : Src W S 1 A l.length (u8s l) := (((HS.out.alloc _).alloc _).drewN nq).only g2 (fun k hk hkb => HSF.out k hk (by subst hkb; exact h6))
    have hlog : d1.log = d.log := by rw [g4]
    exact append_abs w.heap.size (w.heap.size + 1) l.length c A l z1 z2 (fun h => by have := h7 _ h; omega) g1 z3 (by rw [hlog]; exact hl)
  have HC := Lib.hid HCL
  clear h1 h2 h3 h4 h5 h6 h7 h8 hop HCL HF
  unfold Dk.append
  rw [hdw, if_neg (by simp)]
  clear hdw
  by_cases hfull : (l.length : Int) > d.cp - d.snap.length - d.log.length
  · rw [if_pos hfull]
    go_enter Try.func10, Try.ntmps10
    go_wp2_with (go_at_call 26; refine (up_ok _ _ (by assumption)).mono ?_; rintro e w' ⟨rfl, rfl⟩)
    go_quiet (fail)
    go_wp2
    go_ret
    exact ⟨rfl, leaves_quiet HD.out (ho.out.drewN _)⟩
  · rw [if_neg hfull]
    go_enter Try.func10, Try.ntmps10
    go_wp2_with (go_at_call 26; refine (up_ok _ _ (by assumption)).mono ?_; rintro e w' ⟨rfl, rfl⟩)
    go_quiet (fail)
    go_wp2_with (go_at_call 27; refine (op_abs F b 28 _ d _ (Dk.addLog l) (keeps_addLog l) (HD2.out.drewN _) HOP.out HDW.out (enter_append _) (HC.out _)).mono ?_; rintro e w' ⟨rfl, hL⟩; have HL := Lib.hid hL; clear hL)
    go_ret
    exact ⟨rfl, leaves_later (ho.out.drewN _) HL.out⟩

theorem disk_swap_down (A : Option Addr) (l : List Int) (c : Nat) (hD : DiskAt F w b d) (hdw : d.dw = true) :
    Calls Try.prog 15 #[.pointer (some ⟨b, 0, none⟩), .slice A l.length c] w fun e w' => e = .returned (.int .i64 12) ∧ Leaves F b d w w' := by
  have HD := Lib.hid hD
  obtain ⟨vs, vl, Fs, Fl, h1, h2, h3, h4, h5, h6, h7, h8⟩ := hD
  rw [hdw] at h1
  have c7 := (dcells_at ((h1.alloc (.cells #[.pointer (some ⟨b, 0, none⟩)] 23)).alloc (.cells #[.slice A l.length c] 22))).2.2.2.2
  have ho := Lib.hid (((Only.refl Noth w).alloc (.cells #[.pointer (some ⟨b, 0, none⟩)] 23)).alloc (.cells #[.slice A l.length c] 22))
  clear h1 h2 h3 h4 h5 h6 h7 h8 hdw
  go_enter Try.func15, Try.ntmps15
  go_wp2_with (go_at_call 26; refine (up_down _ _ (by assumption)).mono ?_; rintro e w' ⟨rfl, rfl⟩)
  go_ret
  exact ⟨rfl, leaves_quiet HD.out ho.out⟩

theorem disk_swap_up (A : Option Addr) (l : List Int) (c : Nat) (hD : DiskAt F w b d) (hdw : d.dw = false) (hA : A = none → l.length = 0 ∧ c = 0) (hs : Src w S 1 A l.length (u8s l)) (hSF : ∀ k, S k → ¬ F k) (hl : l.length ≤ 100000000) (hop : d.op + 1 ≤ 1000000) :
    Calls Try.prog 15 #[.pointer (some ⟨b, 0, none⟩), .slice A l.length c] w fun e w' => e = .returned (.int .i64 (d.swap l).2) ∧ Leaves F b (d.swap l).1 w w' := by
  have HD := Lib.hid hD
  have HD2 := Lib.hid ((hD.alloc (.cells #[.pointer (some ⟨b, 0, none⟩)] 23)).alloc (.cells #[.slice A l.length c] 22))
  have HS := Lib.hid hs
  have HSF := Lib.hid hSF
  have HA := Lib.hid hA
  clear hs hSF hA
  obtain ⟨vs, vl, Fs, Fl, h1, h2, h3, h4, h5, h6, h7, h8⟩ := hD
  obtain ⟨As, cs, rfl⟩ := h2.shape
  obtain ⟨Al, cl, rfl⟩ := h3.shape
  rw [hdw] at h1
  have HF : ∀ k, F k → k < w.heap.size := h7
  have HFW := Lib.hid HF
  have HB := Lib.hid h1.lt
  obtain ⟨⟨c0, c1, c2, c3⟩, c4, c5, c6, c7⟩ := dcells_at ((h1.alloc (.cells #[.pointer (some ⟨b, 0, none⟩)] 23)).alloc (.cells #[.slice A l.length c] 22))
  have ho := Lib.hid (((Only.refl Noth w).alloc (.cells #[.pointer (some ⟨b, 0, none⟩)] 23)).alloc (.cells #[.slice A l.length c] 22))
  have b1 := h8.cp0
  have b2 := h8.cp1
  have b3 := h8.snap
  have b4 := h8.log
  have HOP := Lib.hid hop
  have HDW := Lib.hid hdw
  have HCL : ∀ nq W d1, DiskAt F W b d1 → Only (fun k => k = b) (((w.alloc (.cells #[.pointer (some ⟨b, 0, none⟩)] 23)).alloc (.cells #[.slice A l.length c] 22)).drewN nq) W → W.heap.size = (((w.alloc (.cells #[.pointer (some ⟨b, 0, none⟩)] 23)).alloc (.cells #[.slice A l.length c] 22)).drewN nq).heap.size → d1 = { d with op := d.op + 1, fu := max (-1) (d.fu - 1) } →
      Calls Try.prog 31 #[.pointer (some ⟨w.heap.size + 1, 0, none⟩), .pointer (some ⟨w.heap.size, 0, none⟩)] W fun e w' => e = .returned (.tuple #[]) ∧ Leaves F b (Dk.newSnap l d1) W w' := by
    intro nq W d1 g1 g2 g3 g4
    have hbl := HB.out
    have z1 : W.cell? ⟨w.heap.size, 0, none⟩ = some (.pointer (some ⟨b, 0, none⟩)) := by
      rw [g2.cell (p := ⟨w.heap.size, 0, none⟩) (by simp <;> omega) (by simp only []; omega)]; exact cell_box2a _ _ _ _ _
    have z2 : W.cell? ⟨w.heap.size + 1, 0, none⟩ = some (.slice A l.length c) := by
      rw [g2.cell (p := ⟨w.heap.size + 1, 0, none⟩) (by simp) (by simp only []; omega)]; exact cell_box2b _ _ _ _ _
    have z3 : Src W S 1 A l.length (u8s l) := (((HS.out.alloc _).alloc _).drewN nq).only g2 (fun k hk hkb => HSF.out k hk (by subst hkb; exact h6))
    exact swap_abs w.heap.size (w.heap.size + 1) c A l z1 z2 HA.out g1 z3 hl
  have HC := Lib.hid HCL
  clear h1 h2 h3 h4 h5 h6 h7 h8 hop HCL HF
  unfold Dk.swap
  rw [hdw, if_neg (by simp)]
  clear hdw
  by_cases hfull : (l.length : Int) > d.cp - d.log.length
  · rw [if_pos hfull]
    go_enter Try.func15, Try.ntmps15
    go_wp2_with (go_at_call 26; refine (up_ok _ _ (by assumption)).mono ?_; rintro e w' ⟨rfl, rfl⟩)
    go_quiet (fail)
    go_wp2
    go_ret
    exact ⟨rfl, leaves_quiet HD.out (ho.out.drewN _)⟩
  · rw [if_neg hfull]
    go_enter Try.func15, Try.ntmps15
    go_wp2_with (go_at_call 26; refine (up_ok _ _ (by assumption)).mono ?_; rintro e w' ⟨rfl, rfl⟩)
    go_quiet (fail)
    go_wp2_with (go_at_call 27; refine (op_abs F b 31 _ d _ (Dk.newSnap l) (keeps_newSnap l) (HD2.out.drewN _) HOP.out HDW.out (enter_swap _) (HC.out _)).mono ?_; rintro e w' ⟨rfl, hL⟩; have HL := Lib.hid hL; clear hL)
    go_ret
    exact ⟨rfl, leaves_later (ho.out.drewN _) HL.out⟩

theorem disk_sync_down  (hD : DiskAt F w b d) (hdw : d.dw = true) :
    Calls Try.prog 11 #[.pointer (some ⟨b, 0, none⟩)] w fun e w' => e = .returned (.int .i64 12) ∧ Leaves F b d w w' := by
  have HD := Lib.hid hD
  obtain ⟨vs, vl, Fs, Fl, h1, h2, h3, h4, h5, h6, h7, h8⟩ := hD
  rw [hdw] at h1
  have c7 := (dcells_at (h1.alloc (.cells #[.pointer (some ⟨b, 0, none⟩)] 23))).2.2.2.2
  have ho := Lib.hid ((Only.refl Noth w).alloc (.cells #[.pointer (some ⟨b, 0, none⟩)] 23))
  clear h1 h2 h3 h4 h5 h6 h7 h8 hdw
  go_enter Try.func11, Try.ntmps11
  go_wp2_with (go_at_call 26; refine (up_down _ _ (by assumption)).mono ?_; rintro e w' ⟨rfl, rfl⟩)
  go_ret
  exact ⟨rfl, leaves_quiet HD.out ho.out⟩

theorem disk_sync_up  (hD : DiskAt F w b d) (hdw : d.dw = false)  (hop : d.op + 1 ≤ 1000000) :
    Calls Try.prog 11 #[.pointer (some ⟨b, 0, none⟩)] w fun e w' => e = .returned (.int .i64 (d.sync).2) ∧ Leaves F b (d.sync).1 w w' := by
  have HD := Lib.hid hD
  have HD2 := Lib.hid (hD.alloc (.cells #[.pointer (some ⟨b, 0, none⟩)] 23))
  obtain ⟨vs, vl, Fs, Fl, h1, h2, h3, h4, h5, h6, h7, h8⟩ := hD
  obtain ⟨As, cs, rfl⟩ := h2.shape
  obtain ⟨Al, cl, rfl⟩ := h3.shape
  rw [hdw] at h1
  have HF : ∀ k, F k → k < w.heap.size := h7
  have HFW := Lib.hid HF
  have HB := Lib.hid h1.lt
  obtain ⟨⟨c0, c1, c2, c3⟩, c4, c5, c6, c7⟩ := dcells_at (h1.alloc (.cells #[.pointer (some ⟨b, 0, none⟩)] 23))
  have ho := Lib.hid ((Only.refl Noth w).alloc (.cells #[.pointer (some ⟨b, 0, none⟩)] 23))
  have b1 := h8.cp0
  have b2 := h8.cp1
  have b3 := h8.snap
  have b4 := h8.log
  have HOP := Lib.hid hop
  have HDW := Lib.hid hdw
  have HCL : ∀ nq W d1, DiskAt F W b d1 → Only (fun k => k = b) ((w.alloc (.cells #[.pointer (some ⟨b, 0, none⟩)] 23)).drewN nq) W → W.heap.size = ((w.alloc (.cells #[.pointer (some ⟨b, 0, none⟩)] 23)).drewN nq).heap.size → d1 = { d with op := d.op + 1, fu := max (-1) (d.fu - 1) } →
      Calls Try.prog 29 #[.pointer (some ⟨w.heap.size, 0, none⟩)] W fun e w' => e = .returned (.tuple #[]) ∧ Leaves F b (Dk.allSafe d1) W w' := by
    intro nq W d1 g1 g2 g3 g4
    have hbl := HB.out
    have z1 : W.cell? ⟨w.heap.size, 0, none⟩ = some (.pointer (some ⟨b, 0, none⟩)) := by
      rw [g2.cell (p := ⟨w.heap.size, 0, none⟩) (by simp <;> omega) (by simp only []; omega)]; exact cell_box1 _ _ _ _
    exact sync_abs w.heap.size z1 g1
  have HC := Lib.hid HCL
  clear h1 h2 h3 h4 h5 h6 h7 h8 hop HCL HF
  unfold Dk.sync
  rw [hdw, if_neg (by simp)]
  clear hdw
  go_enter Try.func11, Try.ntmps11
  go_wp2_with (first | (go_at_call 26; refine (up_ok _ _ (by assumption)).mono ?_; rintro e w' ⟨rfl, rfl⟩) | (go_at_call 27; refine (op_abs F b 29 _ d _ (Dk.allSafe) keeps_allSafe (HD2.out.drewN 0) HOP.out HDW.out (enter_sync _) (HC.out 0)).mono ?_; rintro e w' ⟨rfl, hL⟩; have HL := Lib.hid hL; clear hL))
  go_ret
  exact ⟨rfl, leaves_later (ho.out.drewN _) HL.out⟩

theorem disk_cut_down (n : Int) (hD : DiskAt F w b d) (hdw : d.dw = true) :
    Calls Try.prog 17 #[.pointer (some ⟨b, 0, none⟩), .int .i64 n] w fun e w' => e = .returned (.int .i64 12) ∧ Leaves F b d w w' := by
  have HD := Lib.hid hD
  obtain ⟨vs, vl, Fs, Fl, h1, h2, h3, h4, h5, h6, h7, h8⟩ := hD
  rw [hdw] at h1
  have c7 := (dcells_at ((h1.alloc (.cells #[.pointer (some ⟨b, 0, none⟩)] 23)).alloc (.cells #[.int .i64 n] 3))).2.2.2.2
  have ho := Lib.hid (((Only.refl Noth w).alloc (.cells #[.pointer (some ⟨b, 0, none⟩)] 23)).alloc (.cells #[.int .i64 n] 3))
  clear h1 h2 h3 h4 h5 h6 h7 h8 hdw
  go_enter Try.func17, Try.ntmps17
  go_wp2_with (go_at_call 26; refine (up_down _ _ (by assumption)).mono ?_; rintro e w' ⟨rfl, rfl⟩)
  go_ret
  exact ⟨rfl, leaves_quiet HD.out ho.out⟩

theorem disk_cut_up (n : Int) (hD : DiskAt F w b d) (hdw : d.dw = false)  (hop : d.op + 1 ≤ 1000000) :
    Calls Try.prog 17 #[.pointer (some ⟨b, 0, none⟩), .int .i64 n] w fun e w' => e = .returned (.int .i64 (d.cut n).2) ∧ Leaves F b (d.cut n).1 w w' := by
  have HD := Lib.hid hD
  have HD2 := Lib.hid ((hD.alloc (.cells #[.pointer (some ⟨b, 0, none⟩)] 23)).alloc (.cells #[.int .i64 n] 3))
  obtain ⟨vs, vl, Fs, Fl, h1, h2, h3, h4, h5, h6, h7, h8⟩ := hD
  obtain ⟨As, cs, rfl⟩ := h2.shape
  obtain ⟨Al, cl, rfl⟩ := h3.shape
  rw [hdw] at h1
  have HF : ∀ k, F k → k < w.heap.size := h7
  have HFW := Lib.hid HF
  have HB := Lib.hid h1.lt
  obtain ⟨⟨c0, c1, c2, c3⟩, c4, c5, c6, c7⟩ := dcells_at ((h1.alloc (.cells #[.pointer (some ⟨b, 0, none⟩)] 23)).alloc (.cells #[.int .i64 n] 3))
  have ho := Lib.hid (((Only.refl Noth w).alloc (.cells #[.pointer (some ⟨b, 0, none⟩)] 23)).alloc (.cells #[.int .i64 n] 3))
  have b1 := h8.cp0
  have b2 := h8.cp1
  have b3 := h8.snap
  have b4 := h8.log
  have HOP := Lib.hid hop
  have HDW := Lib.hid hdw
  clear h1 h2 h3 h4 h5 h6 h7 h8 hop HF
  unfold Dk.cut
  rw [hdw, if_neg (by simp)]
  clear hdw
  rcases Int.lt_or_le n 0 with hneg | hneg
  · rw [if_pos (.inl hneg)]
    have hdec : decide (n < 0) = true := by simpa using hneg
    go_enter Try.func17, Try.ntmps17
    go_wp2_with (go_at_call 26; refine (up_ok _ _ (by assumption)).mono ?_; rintro e w' ⟨rfl, rfl⟩)
    go_quiet (fail)
    go_wp2
    go_ret
    exact ⟨rfl, leaves_quiet HD.out (ho.out.drewN _)⟩
  · have hdec : decide (n < 0) = false := by simpa using hneg
    by_cases hbig : n > d.log.length
    · rw [if_pos (.inr hbig)]
      go_enter Try.func17, Try.ntmps17
      go_wp2_with (go_at_call 26; refine (up_ok _ _ (by assumption)).mono ?_; rintro e w' ⟨rfl, rfl⟩)
      go_quiet (fail)
      go_wp2
      go_ret
      exact ⟨rfl, leaves_quiet HD.out (ho.out.drewN _)⟩
    · rw [if_neg (by omega)]
      obtain ⟨m, rfl⟩ := Int.eq_ofNat_of_zero_le hneg
      have HCL : ∀ nq W d1, DiskAt F W b d1 → Only (fun k => k = b) (((w.alloc (.cells #[.pointer (some ⟨b, 0, none⟩)] 23)).alloc (.cells #[.int .i64 (m : Int)] 3)).drewN nq) W → W.heap.size = (((w.alloc (.cells #[.pointer (some ⟨b, 0, none⟩)] 23)).alloc (.cells #[.int .i64 (m : Int)] 3)).drewN nq).heap.size → d1 = { d with op := d.op + 1, fu := max (-1) (d.fu - 1) } →
        Calls Try.prog 32 #[.pointer (some ⟨w.heap.size, 0, none⟩), .pointer (some ⟨w.heap.size + 1, 0, none⟩)] W fun e w' => e = .returned (.tuple #[]) ∧ Leaves F b (Dk.cutLog ((m : Int)).toNat d1) W w' := by
        intro nq W d1 g1 g2 g3 g4
        have hbl := HB.out
        have z1 : W.cell? ⟨w.heap.size, 0, none⟩ = some (.pointer (some ⟨b, 0, none⟩)) := by
          rw [g2.cell (p := ⟨w.heap.size, 0, none⟩) (by simp <;> omega) (by simp only []; omega)]; exact cell_box2a _ _ _ _ _
        have z2 : W.cell? ⟨w.heap.size + 1, 0, none⟩ = some (.int .i64 (m : Int)) := by
          rw [g2.cell (p := ⟨w.heap.size + 1, 0, none⟩) (by simp) (by simp only []; omega)]; exact cell_box2b _ _ _ _ _
        have hlog : d1.log = d.log := by rw [g4]
        exact cut_abs w.heap.size (w.heap.size + 1) m z1 z2 (by omega) (by omega) g1 (by rw [hlog]; omega)
      have HC := Lib.hid HCL
      clear HCL
      go_enter Try.func17, Try.ntmps17
      go_wp2_with (go_at_call 26; refine (up_ok _ _ (by assumption)).mono ?_; rintro e w' ⟨rfl, rfl⟩)
      go_quiet (fail)
      go_wp2_with (go_at_call 27; refine (op_abs F b 32 _ d _ (Dk.cutLog ((m : Int)).toNat) (keeps_cutLog ((m : Int)).toNat) (HD2.out.drewN _) HOP.out HDW.out (enter_cut _) (HC.out _)).mono ?_; rintro e w' ⟨rfl, hL⟩; have HL := Lib.hid hL; clear hL)
      go_ret
      exact ⟨rfl, leaves_later (ho.out.drewN _) HL.out⟩

end
end Go.Proofs.Ytibeblibminjfaa
