/- Package alert: labels are copied; own. -/
import Derived.Test.YtokgignmdgejoaaDoorLbE
namespace Go.Proofs.YtokgignmdgejoaaDoor
open Go.RowKit Go.Lib
set_option linter.unusedVariables false
set_option linter.unusedSimpArgs false
set_option maxRecDepth 100000
attribute [local go_sem ↓] Go.wp_at_zero Go.wp_at_succ

theorem prinfo : (Tryd.prog.info? 63).map (fun i => (i.zero, i.size, i.bytes)) = some (some (.agg #[.string ⟨#[]⟩, .string ⟨#[]⟩]), 2, 32) := by kernel_rfl
def prCs (l : List Pr) : List Value := l.flatMap fun p => [.string p.name, .string p.val]
theorem prCs_len (l : List Pr) : (prCs l).length = l.length * 2 := by
  induction l with
  | nil => rfl
  | cons a t ih => simp [prCs] at ih ⊢; omega
theorem prCs_at : ∀ (l : List Pr) (k : Nat) (p : Pr), l[k]? = some p → (prCs l)[k * 2]? = some (.string p.name) ∧ (prCs l)[k * 2 + 1]? = some (.string p.val)
  | [], k, p, h => by simp at h
  | a :: t, 0, p, h => by
    simp at h
    subst h
    exact ⟨rfl, rfl⟩
  | a :: t, k + 1, p, h => by
    have ih := prCs_at t k p (by simpa using h)
    have e : prCs (a :: t) = .string a.name :: .string a.val :: prCs t := rfl
    rw [e, show (k + 1) * 2 = k * 2 + 1 + 1 by omega]
    exact ih
theorem prCs_one (l : List Pr) : ∀ u ∈ prCs l, u.oneCell' = true := by
  intro u hu
  simp only [prCs, List.mem_flatMap] at hu
  obtain ⟨p, _, h⟩ := hu
  simp at h
  rcases h with rfl | rfl <;> rfl
theorem PsAt.src {w : World} {S : Nat → Prop} {A : Option Addr} {c : Nat} {l : List Pr} (h : PsAt w S A c l) : Src w S 2 A l.length (prCs l) := by
  refine ⟨prCs_len l, fun hl => ?_⟩
  obtain ⟨b, o, hA, hS, hb, hc⟩ := h.mem hl
  refine ⟨⟨b, o, none⟩, hA, hS, hb, fun j u hu => ?_⟩
  have hj : j < l.length * 2 := by rw [← prCs_len]; exact (List.getElem?_eq_some_iff.1 hu).1
  obtain ⟨p, hp⟩ : ∃ p, l[j / 2]? = some p := ⟨_, List.getElem?_eq_getElem (by omega)⟩
  have h1 := prCs_at l _ p hp
  have h2 := hc _ p hp
  rw [add_plain']
  rcases Nat.mod_two_eq_zero_or_one j with e | e
  · have ej : j = j / 2 * 2 := by omega
    rw [← ej] at h1 h2
    rw [h1.1] at hu
    rw [← hu]
    exact h2.1
  · have ej : j = j / 2 * 2 + 1 := by omega
    rw [show o + j / 2 * 2 + 1 = o + (j / 2 * 2 + 1) by omega, ← ej] at h2
    rw [← ej] at h1
    rw [h1.2] at hu
    rw [← hu]
    exact h2.2
/-- A row of labels: its block. -/
theorem Row.ps {w : World} {F : Nat → Prop} {A : Option Addr} {c n : Nat} {l : List Pr} (h : Row w F 63 2 (.slice A n c) n (prCs l)) (hn : l.length = n) (h1 : 1 ≤ n) (hsz : ∀ p ∈ l, p.name.size ≤ 9223372036854775807 ∧ p.val.size ≤ 9223372036854775807) : ∃ g, A = some ⟨g, 0, none⟩ ∧ F g ∧ g < w.heap.size ∧ PsAt w F A c l := by
  have hs := h.src
  obtain ⟨hl, A', cap, hv, k1, k2, k3⟩ := h
  injection hv with e1 _ e3
  subst e1 e3
  rcases k3 with k3 | ⟨g, cur, hA, hF, hg, hc, ht⟩
  · omega
  · refine ⟨g, hA, hF, (Array.getElem?_eq_some_iff.1 hg).1, fun hp => ?_, hsz, by omega, by simpa [maxLen] using k2⟩
    obtain ⟨ad, hA2, hS, hb, hcell⟩ := hs.2 (by omega)
    rw [hA] at hA2
    injection hA2 with hA2
    subst hA2
    refine ⟨g, 0, hA, hF, hb, fun k p hk => ?_⟩
    have h2 := prCs_at l k p hk
    have h3 := hcell _ _ h2.1
    have h4 := hcell _ _ h2.2
    rw [add_plain'] at h3 h4
    exact ⟨h3, by rw [show 0 + k * 2 + 1 = 0 + (k * 2 + 1) by omega]; exact h4⟩
/-- A block of at least so many cells, none of them frozen. -/
def Wide (w : World) (b n : Nat) : Prop := ∃ t cs, Hld w b t cs ∧ n ≤ cs.size
theorem Wide.at {w : World} {b n k : Nat} (h : Wide w b n) (hk : k < n) : (∃ v, w.cell? ⟨b, k, none⟩ = some v) ∧ w.frozen? ⟨b, k, none⟩ = false := by
  obtain ⟨t, cs, h1, h2⟩ := h
  refine ⟨⟨_, (h1.cell k).trans (Array.getElem?_eq_getElem (by omega))⟩, h1.free k⟩
theorem Wide.only {w w' : World} {F : Nat → Prop} {b n : Nat} (h : Wide w b n) (ho : Only F w w') (hF : ¬ F b) : Wide w' b n := by
  obtain ⟨t, cs, h1, h2⟩ := h
  exact ⟨t, cs, h1.only ho hF, h2⟩
theorem Wide.set {w : World} {b n : Nat} (h : Wide w b n) (g i : Nat) (u : Value) : Wide (w.setCell ⟨g, i, none⟩ u) b n := by
  obtain ⟨t, cs, h1, h2⟩ := h
  by_cases e : b = g
  · subst e
    exact ⟨t, _, h1.set_ i u, by simpa using h2⟩
  · exact ⟨t, cs, h1.far (p := ⟨g, i, none⟩) e u, h2⟩
theorem Row.wide {w : World} {F : Nat → Prop} {e : TypeId} {size n c g : Nat} {xs : List Value} (h : Row w F e size (.slice (some ⟨g, 0, none⟩) n c) n xs) (hn : 0 < n) : Wide w g (n * size) := by
  obtain ⟨hl, A', cap, hv, k1, k2, k3⟩ := h
  injection hv with e1 _ e3
  subst e1 e3
  rcases k3 with k3 | ⟨g', cur, hA, hF, hg, hc, ht⟩
  · omega
  · injection hA with hA
    injection hA with hA
    subst hA
    exact ⟨e, cur, hg, Nat.le_trans (Nat.mul_le_mul_right _ k1) hc⟩
/-- Labels are copied. -/
def PrsAns (l : List Pr) (n : Nat) (w : World) (e : Ending) (w' : World) : Prop := ∃ b c', e = .returned (.slice (some ⟨b, 0, none⟩) n c') ∧ w.heap.size ≤ b ∧ b < w'.heap.size ∧ PsAt w' (fun k => k = b) (some ⟨b, 0, none⟩) c' l ∧ Wide w' b (n * 2)
theorem PsAt.mono {w : World} {S T : Nat → Prop} {A : Option Addr} {c : Nat} {l : List Pr} (h : PsAt w S A c l) (hST : ∀ k, S k → k < w.heap.size → T k) : PsAt w T A c l :=
  ⟨fun hl => by
    obtain ⟨b, o, hA, hS, hb, hc⟩ := h.mem hl
    exact ⟨b, o, hA, hST b hS hb, hb, hc⟩, h.sz, h.cap, h.top⟩
set_option maxHeartbeats 4000000 in
theorem cloneP_run (A : Option Addr) (c n : Nat) (S : Nat → Prop) (l : List Pr) (hn : l.length = n) (h1 : 1 ≤ n) (hz : n ≤ 1000000) (w : World) (h : PsAt w S A c l) :
    Calls Tryd.prog 50 #[.slice A n c] w fun e w' => PrsAns l n w e w' ∧ Only Noth w w' := by
  have H := Lib.hid h
  have HN := Lib.hid hn
  obtain ⟨b0, o0, hA, _⟩ := h.mem (by omega)
  subst hA
  have hq := fun (w : World) (a : Option Addr) (n c : Nat) => Lib.run_eql_slice_nil (P := Tryd.prog) w 25 63 a n c 0 0 Tryd.underlying25
  obtain ⟨i0, hi, hz0, hz1, hz2⟩ := info_parts prinfo
  have RW := Lib.hid (Row.empty (w.alloc (.cells #[] 63)) (New w) 63 2 (some ⟨w.heap.size, 0, none⟩))
  have hsrc := h.src
  rw [hn] at hsrc
  have SV := Lib.hid (hsrc.alloc (.cells #[] 63))
  clear h hn hsrc
  go_enter Tryd.func50, Tryd.ntmps50
  go_wp2_with (at_builtin; refine wpList_append_row _ rfl (.tmp 5) (.tmp 6) 25 rfl 63 i0 (.agg #[.string ⟨#[]⟩, .string ⟨#[]⟩]) 2 32 Tryd.underlying25 hi hz0 hz1 hz2 rfl (New w) _ _ 0 _ rfl RW.out (some ⟨b0, o0, none⟩) n c (prCs l) rfl SV.out (prCs_one l) (by simp only [maxLen]; omega) (by omega) ?_; intro v' w3 hrow3 ho3 _; have HR3 := Lib.hid hrow3; have HO3 := Lib.hid ho3; clear hrow3 ho3)
  have hr := HR3.out
  rw [List.nil_append, Nat.zero_add] at hr
  obtain ⟨A9, c9, rfl⟩ := hr.shape
  have hr2 : Row w3 (New w) 63 2 (.slice A9 n c9) n (prCs l) := hr.mono (fun k hk _ => by
    rcases hk with hk | hk
    · exact hk
    · have := hk.1
      simp only [World.size_alloc] at this
      show w.heap.size ≤ k
      omega)
  obtain ⟨g, rfl, hg, hgl, hps⟩ := hr2.ps HN.out h1 H.out.sz
  have WD := Lib.hid (hr2.wide (by omega))
  have ON := Lib.hid (((Only.refl Noth w).alloc (.cells #[] 63)).trans HO3.out (fun j hj hl => by have hj : w.heap.size ≤ j := hj; omega))
  have HPS := Lib.hid hps
  have HG := Lib.hid (And.intro hg hgl)
  clear hr hr2 hps hg hgl
  go_ret
  refine ⟨⟨g, c9, rfl, HG.out.1, HG.out.2, ?_, WD.out⟩, ON.out⟩
  refine ⟨fun hl => ?_, HPS.out.sz, HPS.out.cap, HPS.out.top⟩
  obtain ⟨b, o, hA, hS, hb, hc⟩ := HPS.out.mem hl
  refine ⟨b, o, hA, ?_, hb, hc⟩
  injection hA with hA
  injection hA with hA
  exact hA.symm
set_option maxHeartbeats 4000000 in
theorem own_run2 (A : Option Addr) (c n : Nat) (S : Nat → Prop) (l : List Pr) (st en : Int) (hn : l.length = n) (h1 : 1 ≤ n) (hz : n ≤ 1000000) (w : World) (h : PsAt w S A c l) :
    Calls Tryd.prog 31 #[.agg #[.slice A n c, .int .i64 st, .int .i64 en]] w fun e w' => (∃ b c', e = .returned (.agg #[.slice (some ⟨b, 0, none⟩) n c', .int .i64 st, .int .i64 en]) ∧ w.heap.size ≤ b ∧ b < w'.heap.size ∧ PsAt w' (fun k => k = b) (some ⟨b, 0, none⟩) c' l ∧ Wide w' b (n * 2)) ∧ Only Noth w w' := by
  have H := Lib.hid h
  have HN := Lib.hid hn
  clear h hn
  obtain ⟨W0, hW0⟩ : ∃ W, (w.alloc (.cells #[.slice A n c, .int .i64 st, .int .i64 en] 27)).alloc (.cells #[.slice none 0 0, .int .i64 0, .int .i64 0] 27) = W := ⟨_, rfl⟩
  have B1 := Lib.hid (show Hld W0 w.heap.size 27 #[.slice A n c, .int .i64 st, .int .i64 en] by rw [← hW0]; exact (Hld.new w _ _).alloc _)
  have B2 := Lib.hid (show Hld W0 (w.heap.size + 1) 27 #[.slice none 0 0, .int .i64 0, .int .i64 0] by
    have := Hld.new (w.alloc (.cells #[.slice A n c, .int .i64 st, .int .i64 en] 27)) 27 #[.slice none 0 0, .int .i64 0, .int .i64 0]
    rw [hW0] at this
    simpa using this)
  have O0 := Lib.hid (show Only Noth w W0 by rw [← hW0]; exact ((Only.refl Noth w).alloc _).alloc _)
  have m0 := B1.out.cell 0
  go_enter Tryd.func31, Tryd.ntmps31
  go_wp2_with fail
  refine (cloneP_run A c n S l HN.out h1 hz W0 (H.out.noth O0.out)).mono ?_
  rintro e w1 ⟨⟨b, c', rfl, hb, hbl, hps, hwd⟩, ho⟩
  have HWD := Lib.hid hwd
  have HPS := Lib.hid hps
  have HB := Lib.hid (And.intro hb hbl)
  have O1 := Lib.hid (O0.out.tr ho)
  have hb1 := B1.out.only ho (fun h => h)
  have B2' := Lib.hid (B2.out.only ho (fun h => h))
  have OO := Lib.hid ho
  have m0 := hb1.cell 0
  have m1 := hb1.cell 1
  have m2 := hb1.cell 2
  have f0 := hb1.free 0
  have hset := hb1.set_ 0 (.slice (some ⟨b, 0, none⟩) n c')
  have B3 := Lib.hid hset
  have O3 := Lib.hid ((Only.refl (fun k => k = w.heap.size) w1).setCell (p := ⟨w.heap.size, 0, none⟩) (fun _ => rfl) (.slice (some ⟨b, 0, none⟩) n c'))
  have Z0 := Lib.hid (show W0.heap.size = w.heap.size + 2 by rw [← hW0]; simp)
  clear hW0 hb hbl hps ho hb1 hset hwd
  go_wp2_with (refine wpList_store_whole rfl rfl 27 (.tmp 2) (.tmp 7) rfl (w.heap.size + 1) rfl _ rfl 27 _ (B2'.out.only O3.out (fun e => by have e : w.heap.size + 1 = w.heap.size := e; omega)) rfl (by simp [Value.oneCell']) (by kernel_rfl) ?_; intro w4 gb ho4 hz4; have O4 := Lib.hid ho4; have y0 := gb.cell 0; have y1 := gb.cell 1; have y2 := gb.cell 2; clear gb ho4 hz4)
  refine bodyPost_ret (v := .agg #[.slice (some ⟨b, 0, none⟩) n c', .int .i64 st, .int .i64 en]) (by simp [results, Tryd.results31, go_sem, y0, y1, y2]) rfl ?_
  refine ⟨⟨b, c', rfl, ?_, ?_, (HPS.out.only O3.out (fun j hj e => ?_)).only O4.out (fun j hj e => ?_), (HWD.out.only O3.out (fun e => ?_)).only O4.out (fun e => ?_)⟩, (O1.out.trans O3.out (fun j hj hl => ?_)).trans O4.out (fun j hj hl => ?_)⟩
  · have := HB.out.1; have := Z0.out; omega
  · have := HB.out.2; have := O3.out.size; have := O4.out.size; omega
  · have hj : j = b := hj; have e : j = w.heap.size := e; have := HB.out.1; have := Z0.out; omega
  · have hj : j = b := hj; have e : j = w.heap.size + 1 := e; have := HB.out.1; have := Z0.out; omega
  · have e : b = w.heap.size := e; have := HB.out.1; have := Z0.out; omega
  · have e : b = w.heap.size + 1 := e; have := HB.out.1; have := Z0.out; omega
  · have hj : j = w.heap.size := hj; omega
  · have hj : j = w.heap.size + 1 := hj; omega
theorem own_run (A : Option Addr) (c n : Nat) (S : Nat → Prop) (l : List Pr) (st en : Int) (hn : l.length = n) (h1 : 1 ≤ n) (hz : n ≤ 1000000) (w : World) (h : PsAt w S A c l) :
    Calls Tryd.prog 31 #[.agg #[.slice A n c, .int .i64 st, .int .i64 en]] w fun e w' => (∃ b c', e = .returned (.agg #[.slice (some ⟨b, 0, none⟩) n c', .int .i64 st, .int .i64 en]) ∧ w.heap.size ≤ b ∧ b < w'.heap.size ∧ PsAt w' (fun k => k = b) (some ⟨b, 0, none⟩) c' l) ∧ Only Noth w w' :=
  (own_run2 A c n S l st en hn h1 hz w h).mono fun e w' ⟨⟨b, c', h1, h2, h3, h4, _⟩, ho⟩ => ⟨⟨b, c', h1, h2, h3, h4⟩, ho⟩
end Go.Proofs.YtokgignmdgejoaaDoor
