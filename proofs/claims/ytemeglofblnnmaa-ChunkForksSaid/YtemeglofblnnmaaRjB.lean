/- The reference's joiner: a text is taken out; what is missing. -/
import Derived.Test.YtemeglofblnnmaaRjA
import Derived.Test.YtemeglofblnnmaaJnG
import Derived.Test.YtemeglofblnnmaaOrdL
namespace Go.Proofs.Ytemeglofblnnmaa
open Go.RowKit Go.Lib
set_option linter.unusedVariables false
set_option linter.unusedSimpArgs false
set_option maxRecDepth 100000
attribute [local go_sem ↓] Go.wp_at_zero Go.wp_at_succ

theorem Only.predrew {F : Nat → Prop} {w w' : World} (h : Only F w w') : Only F w.drew w' := ⟨h.os, h.tape, h.output, h.size, h.block⟩
theorem rtxinfo : (Try.prog.info? 81).map (fun i => (i.zero, i.size, i.bytes)) = some (some (.agg #[.int .u16 0, .int .i64 0, .slice none 0 0]), 3, 40) := by kernel_rfl
theorem take_flat3 {css : List (List Value)} (h : ∀ cs ∈ css, cs.length = 3) (k : Nat) : (css.take k).flatten = css.flatten.take (k * 3) := by
  induction css generalizing k with
  | nil => simp
  | cons a t ih =>
    cases k with
    | zero => simp
    | succ k =>
      have ha := h a (by simp)
      rw [List.take_succ_cons, List.flatten_cons, List.flatten_cons, ih (fun cs hc => h cs (by simp [hc])), List.take_append, List.take_of_length_le (show a.length ≤ (k + 1) * 3 by omega), show (k + 1) * 3 - a.length = k * 3 by omega]
theorem drop_flat3 {css : List (List Value)} (h : ∀ cs ∈ css, cs.length = 3) (k : Nat) : (css.drop k).flatten = css.flatten.drop (k * 3) := by
  induction css generalizing k with
  | nil => simp
  | cons a t ih =>
    cases k with
    | zero => simp
    | succ k =>
      have ha := h a (by simp)
      rw [List.drop_succ_cons, List.flatten_cons, ih (fun cs hc => h cs (by simp [hc])), List.drop_append, List.drop_of_length_le (show a.length ≤ (k + 1) * 3 by omega), show (k + 1) * 3 - a.length = k * 3 by omega, List.nil_append]
theorem rt_to {w : World} {S : Nat → Prop} {A : Option Addr} {c n : Nat} {css : List (List Value)} (hc : Cs w S A css.flatten) (h3 : ∀ cs ∈ css, cs.length = 3) (hn : css.length = n) (hnc : n ≤ c) (hm : c ≤ maxLen) {k : Nat} (hk : k ≤ n) :
    ∃ A', (∀ V : World, (Instr.slice 46 (.slice A n c) none (some (.int .i64 k)) none).run Try.prog V = .ok (.slice A' k c) V) ∧ Cs w S A' (css.take k).flatten := by
  unfold maxLen at hm
  refine ⟨if c = 0 then A else A.map (·.add 0), fun V => ?_, fun hp => ?_⟩
  · have hz := Try.sizeOf81 V
    have hr := run_slice_h (P := Try.prog) V 46 A n c (by kernel_rfl) .i64 (k : Int) (by omega) (by omega)
    rw [show Try.prog.elem 46 = 81 by kernel_rfl, hz] at hr
    rw [hr]
    simp [Result.andThen, sliced]
  · rw [take_flat3 h3] at hp ⊢
    rw [List.length_take] at hp
    obtain ⟨b, o, rfl, hS, hb, hcell⟩ := hc (by omega)
    have hfl := flat_lenG h3
    rw [if_neg (by omega)]
    refine ⟨b, o, by simp [add_plain'], hS, hb, fun j u hu => hcell j u ?_⟩
    rw [List.getElem?_take] at hu
    split at hu
    · exact hu
    · cases hu
theorem rt_from {w : World} {S : Nat → Prop} {A : Option Addr} {c n : Nat} {css : List (List Value)} (hc : Cs w S A css.flatten) (h3 : ∀ cs ∈ css, cs.length = 3) (hn : css.length = n) (hnc : n ≤ c) (hm : c ≤ maxLen) {k : Nat} (hk : k ≤ n) :
    ∃ A', (∀ V : World, (Instr.slice 46 (.slice A n c) (some (.int .i64 k)) none none).run Try.prog V = .ok (.slice A' (n - k) (c - k)) V) ∧ Cs w S A' (css.drop k).flatten := by
  unfold maxLen at hm
  refine ⟨if c = k then A else A.map (·.add (k * 3)), fun V => ?_, fun hp => ?_⟩
  · have hz := Try.sizeOf81 V
    have hr := run_slice_l (P := Try.prog) V 46 A n c (by kernel_rfl) .i64 (k : Int) (by omega) (by omega)
    rw [show Try.prog.elem 46 = 81 by kernel_rfl, hz] at hr
    rw [hr]
    simp [Result.andThen, sliced]
  · rw [drop_flat3 h3] at hp ⊢
    have hfl := flat_lenG h3
    rw [List.length_drop] at hp
    obtain ⟨b, o, rfl, hS, hb, hcell⟩ := hc (by omega)
    rw [if_neg (by omega)]
    refine ⟨b, o + k * 3, by simp [add_plain'], hS, hb, fun j u hu => ?_⟩
    rw [Nat.add_assoc]
    refine hcell (k * 3 + j) u ?_
    rwa [List.getElem?_drop] at hu
set_option maxHeartbeats 8000000 in
theorem rgone_run (S : Nat → Prop) (v : Value) (J : Jn) (i : Nat) (w : World) (h : RJ w S v J) (hi : i < J.T.length) (hl : J.T.length ≤ 1000000) :
    Calls Try.prog 36 #[v, .int .i64 (i : Int)] w fun e w' => (∃ v', e = .returned v' ∧ RJ w' (fun b => S b ∨ New w b) v' ⟨J.T.eraseIdx i, J.lost⟩) ∧ Only Noth w w' := by
  obtain ⟨u, rfl, A, c, css, rfl, hC, hX, hnc, hcm⟩ := h
  obtain ⟨n, hn⟩ : ∃ n, J.T.length = n := ⟨_, rfl⟩
  have h3 := hX.three
  have hcl : css.length = n := by rw [hX.1, hn]
  rw [hn] at hnc hi hl ⊢
  obtain ⟨A1, hr1, hc1⟩ := rt_to hC h3 hcl hnc hcm (k := i) (by omega)
  obtain ⟨A2, hr2, hc2⟩ := rt_from hC h3 hcl hnc hcm (k := i + 1) (by omega)
  have HC1 := Lib.hid (hc1.src (n := i) (size := 3) (by rw [flat_lenG (fun cs hc => h3 cs (List.mem_of_mem_take hc)), List.length_take]; congr 1; omega) (by omega))
  have HC2 := Lib.hid (hc2.src (n := n - (i + 1)) (size := 3) (by rw [flat_lenG (fun cs hc => h3 cs (List.mem_of_mem_drop hc)), List.length_drop, hcl]) (by omega))
  have HO := Lib.hid hX.one
  have HX := Lib.hid hX
  have HR1 := Lib.hid hr1
  have HR2 := Lib.hid (show ∀ V : World, (Instr.slice 46 (.slice A n c) (some (.int .i64 ((i : Int) + 1))) none none).run Try.prog V = .ok (.slice A2 (n - (i + 1)) (c - (i + 1))) V from hr2)
  obtain ⟨i0, hti, hz0, hz1, hz2⟩ := info_parts rtxinfo
  have HTI := Lib.hid hti
  have HZ0 := Lib.hid hz0
  have HZ1 := Lib.hid hz1
  have HZ2 := Lib.hid hz2
  have BX := Lib.hid ((Hld.new w 48 #[.slice A n c, .int .i64 J.lost]).alloc (.cells #[.slice none 0 0, .int .i64 0] 48))
  have BR := Lib.hid (show Hld _ (w.heap.size + 1) 48 #[.slice none 0 0, .int .i64 0] by have := Hld.new (w.alloc (.cells #[.slice A n c, .int .i64 J.lost] 48)) 48 #[.slice none 0 0, .int .i64 0]; simpa using this)
  have O2 := Lib.hid (((Only.refl Noth w).alloc (.cells #[.slice A n c, .int .i64 J.lost] 48)).alloc (.cells #[.slice none 0 0, .int .i64 0] 48))
  obtain ⟨W, hW⟩ : ∃ W, (w.alloc (.cells #[.slice A n c, .int .i64 J.lost] 48)).alloc (.cells #[.slice none 0 0, .int .i64 0] 48) = W := ⟨_, rfl⟩
  rw [hW] at BX BR O2
  have HWs := Lib.hid (show W.heap.size = w.heap.size + 2 by rw [← hW]; simp)
  have hi0 : (0 : Int) ≤ i := by omega
  have hi1 : (i : Int) + 1 ≤ 1000001 := by omega
  have hwr : IntKind.i64.wrap ((i : Int) + 1) = (i : Int) + 1 := by rw [IntKind.wrap_i64]; omega
  have HN := Lib.hid hn
  clear hC hX h3 hnc hcm hc1 hc2 hr1 hr2 hti hz0 hz1 hz2 hn hcl
  go_enter Try.func36, Try.ntmps36
  go_wp2_with fail
  clear hW
  refine wp_region_E (fun k => k = w.heap.size) 13 (by kernel_rfl) ?_
  refine wpE_take (i := 0) (d := some 6) rfl rfl (by kernel_rfl) (by kernel_rfl) (by kernel_rfl) (fun _ _ _ h => h) (sure_value (v := .slice none 0 0) (by rfl) (fun v1 h1 => by first | rfl | (go_simp; done) | (go_simp; intro h9; exact absurd h9 (by omega)) | (go_simp; assumption))) (Only.refl _ _) ?_
  simp only [Act.put, List.setIfInBounds_toArray, List.set_cons_zero, List.set_cons_succ]
  refine wpE_take (i := 1) (d := some 7) rfl rfl (by kernel_rfl) (by kernel_rfl) (by kernel_rfl) (fun _ _ _ h => h) (sure_value (v := .pointer (some ⟨w.heap.size, 0, none⟩)) (by rfl) (fun v1 h1 => by first | rfl | (go_simp; done) | (go_simp; intro h9; exact absurd h9 (by omega)) | (go_simp; assumption))) (Only.refl _ _) ?_
  simp only [Act.put, List.setIfInBounds_toArray, List.set_cons_zero, List.set_cons_succ]
  refine wpE_take (i := 2) (d := some 8) rfl rfl (by kernel_rfl) (by kernel_rfl) (by kernel_rfl) (fun _ _ _ h => h) (sure_lit (v := .slice A n c) (i := 0) BX.out.drew rfl (fun h => h) (by rfl) (fun _ h => by go_simp)) (Only.refl _ _) ?_
  simp only [Act.put, List.setIfInBounds_toArray, List.set_cons_zero, List.set_cons_succ]
  refine wpE_take (i := 3) (d := some 9) rfl rfl (by kernel_rfl) (by kernel_rfl) (by kernel_rfl) (fun _ _ _ h => h) (sure_value (v := .int .i64 (i : Int)) (by rfl) (fun v1 h1 => by first | rfl | (go_simp; done) | (go_simp; intro h9; exact absurd h9 (by omega)) | (go_simp; assumption))) (Only.refl _ _) ?_
  simp only [Act.put, List.setIfInBounds_toArray, List.set_cons_zero, List.set_cons_succ]
  refine wpE_take (i := 4) (d := some 10) rfl rfl (by kernel_rfl) (by kernel_rfl) (by kernel_rfl) (fun _ _ _ h => h) (sure_slice HR1.out (by kernel_rfl) (by rfl) rfl rfl rfl rfl) (Only.refl _ _) ?_
  simp only [Act.put, List.setIfInBounds_toArray, List.set_cons_zero, List.set_cons_succ]
  refine wpE_take (i := 6) (d := some 12) rfl rfl (by kernel_rfl) (by kernel_rfl) (by kernel_rfl) (fun _ _ _ h => h) (sure_value (v := .pointer (some ⟨w.heap.size, 0, none⟩)) (by rfl) (fun v1 h1 => by first | rfl | (go_simp; done) | (go_simp; intro h9; exact absurd h9 (by omega)) | (go_simp; assumption))) (Only.refl _ _) ?_
  simp only [Act.put, List.setIfInBounds_toArray, List.set_cons_zero, List.set_cons_succ]
  refine wpE_take (i := 7) (d := some 13) rfl rfl (by kernel_rfl) (by kernel_rfl) (by kernel_rfl) (fun _ _ _ h => h) (sure_lit (v := .slice A n c) (i := 0) BX.out.drew rfl (fun h => h) (by rfl) (fun _ h => by go_simp)) (Only.refl _ _) ?_
  simp only [Act.put, List.setIfInBounds_toArray, List.set_cons_zero, List.set_cons_succ]
  refine wpE_take (i := 8) (d := some 14) rfl rfl (by kernel_rfl) (by kernel_rfl) (by kernel_rfl) (fun _ _ _ h => h) (sure_value (v := .int .i64 (i : Int)) (by rfl) (fun v1 h1 => by first | rfl | (go_simp; done) | (go_simp; intro h9; exact absurd h9 (by omega)) | (go_simp; assumption))) (Only.refl _ _) ?_
  simp only [Act.put, List.setIfInBounds_toArray, List.set_cons_zero, List.set_cons_succ]
  refine wpE_take (i := 9) (d := some 15) rfl rfl (by kernel_rfl) (by kernel_rfl) (by kernel_rfl) (fun _ _ _ h => h) (sure_value (v := .int .i64 ((i : Int) + 1)) (by rfl) (fun v1 h1 => by first | rfl | (go_simp; done) | (go_simp; intro h9; exact absurd h9 (by omega)) | (go_simp; assumption))) (Only.refl _ _) ?_
  simp only [Act.put, List.setIfInBounds_toArray, List.set_cons_zero, List.set_cons_succ]
  refine wpE_take (i := 10) (d := some 16) rfl rfl (by kernel_rfl) (by kernel_rfl) (by kernel_rfl) (fun _ _ _ h => h) (sure_slice HR2.out (by kernel_rfl) (by rfl) rfl rfl rfl rfl) (Only.refl _ _) ?_
  simp only [Act.put, List.setIfInBounds_toArray, List.set_cons_zero, List.set_cons_succ]
  refine wpE_run1 (i := 5) (d := some 11) (fun v W2 => ∃ A' c', v = .slice A' i c' ∧ Row W2 (New W) 81 3 (.slice A' i c') i (css.take i).flatten ∧ Only Noth W W2) (by kernel_rfl) rfl rfl (by rfl) (fun w5 h5 => ?_) ?_
  · obtain ⟨v', w6, hr, hrow, ho, _⟩ := run_append_row (P := Try.prog) w5 46 46 81 i0 (.agg #[.int .u16 0, .int .i64 0, .slice none 0 0]) 3 40 Try.underlying46 HTI.out HZ0.out HZ1.out HZ2.out rfl (New W) _ _ 0 _ (Row.nil w5 (New W) 81 3) A1 i c ((css.take i).flatten) (((HC1.out.only O2.out (fun _ _ h => h))).only (Only.undrew h5) (fun _ _ h => h)) (fun u hu => HO.out u (by obtain ⟨cs, h1, h2⟩ := List.mem_flatten.1 hu; exact List.mem_flatten.2 ⟨cs, List.mem_of_mem_take h1, h2⟩)) (by simp only [maxLen]; omega) (by omega)
    rw [Nat.zero_add, List.nil_append] at hrow
    obtain ⟨A', c', rfl⟩ := hrow.shape
    have hoN : Only Noth W w6 := (Only.undrew h5).trans ho (fun j hj hl => by have hj : W.heap.size ≤ j := hj; omega)
    exact ⟨_, w6, app_op rfl rfl rfl hr, ⟨A', c', rfl, hrow.mono (fun k hk _ => by rcases hk with hk | hk; exact hk; exact Nat.le_trans (Only.undrew h5).size hk.1), hoN⟩, hoN.predrew⟩
  rintro v w6 ⟨A3, c3, rfl, hrow, hoN⟩ h6
  simp only [Act.put, List.setIfInBounds_toArray, List.set_cons_zero, List.set_cons_succ]
  have R3 := Lib.hid hrow
  have O6 := Lib.hid hoN
  clear hrow hoN
  refine wpE_run1 (i := 11) (d := some 17) (fun v W2 => ∃ A' c', v = .slice A' (n - 1) c' ∧ Row W2 (New W) 81 3 (.slice A' (n - 1) c') (n - 1) (css.eraseIdx i).flatten ∧ Only Noth W W2) (by kernel_rfl) rfl rfl (by rfl) (fun w5 h5 => ?_) ?_
  · obtain ⟨v', w7, hr, hrow, ho, _⟩ := run_append_row (P := Try.prog) w5 46 46 81 i0 (.agg #[.int .u16 0, .int .i64 0, .slice none 0 0]) 3 40 Try.underlying46 HTI.out HZ0.out HZ1.out HZ2.out rfl (New W) _ _ i _ (R3.out.only h5 (fun _ _ h => h)) A2 (n - (i + 1)) (c - (i + 1)) ((css.drop (i + 1)).flatten) (((HC2.out.only O2.out (fun _ _ h => h)).only O6.out (fun _ _ h => h)).only h5 (fun _ _ h => h)) (fun u hu => HO.out u (by obtain ⟨cs, h1, h2⟩ := List.mem_flatten.1 hu; exact List.mem_flatten.2 ⟨cs, List.mem_of_mem_drop h1, h2⟩)) (by simp only [maxLen]; omega) (by omega)
    rw [show i + (n - (i + 1)) = n - 1 by omega, ← erase_flat] at hrow
    obtain ⟨A', c', rfl⟩ := hrow.shape
    have hoN : Only Noth W w7 := (O6.out.tr h5).trans ho (fun j hj hl => by have hj : W.heap.size ≤ j := hj; omega)
    exact ⟨_, w7, app_op rfl rfl rfl hr, ⟨A', c', rfl, hrow.mono (fun k hk _ => by rcases hk with hk | hk; exact hk; exact Nat.le_trans (O6.out.tr h5).size hk.1), hoN⟩, hoN.predrew⟩
  rintro v w7 ⟨A4, c4, rfl, hrow, hoN⟩ h7
  simp only [Act.put, List.setIfInBounds_toArray, List.set_cons_zero, List.set_cons_succ]
  have R4 := Lib.hid hrow
  have O7 := Lib.hid hoN
  clear hrow hoN
  refine wpE_take (i := 12) (d := some 18) rfl rfl (by kernel_rfl) (by kernel_rfl) (by kernel_rfl) (fun _ _ _ h => h) (sure_value (v := .pointer (some ⟨w.heap.size, 0, none⟩)) (by rfl) (fun v1 h1 => by first | rfl | (go_simp; done) | (go_simp; intro h9; exact absurd h9 (by omega)) | (go_simp; assumption))) h7 ?_
  simp only [Act.put, List.setIfInBounds_toArray, List.set_cons_zero, List.set_cons_succ]
  refine wpE_cell (i := 13) (off := 0) (g := w.heap.size) (v := .slice A4 (n - 1) c4) (by kernel_rfl) rfl (by rfl) rfl rfl rfl rfl (BX.out.only O7.out (fun h => h)) rfl (fun w1 h1 h2 => by go_simp) h7 (fun _ => rfl) ?_
  intro w8 w9 ho8 hg9 ho9 hS9
  refine wpN_done (by kernel_rfl) (fun w10 ho10 => ?_) _
  have hbx : Hld w10 w.heap.size 48 #[.slice A4 (n - 1) c4, .int .i64 J.lost] := by
    have := hg9.only ho10 (fun h => h)
    simpa using this
  have ho10b : Only (fun k => k = w.heap.size) w7 w10 := ((ho8.mono (fun _ h _ => h.elim)).trans ho9 (fun j hj _ => hj)).trans ho10 (fun _ h _ => h.elim)
  have BR10 := Lib.hid ((BR.out.only O7.out (fun h => h)).only ho10b (fun h => by omega))
  have R10 := Lib.hid (R4.out.only ho10b (fun k hk e => by have hk : W.heap.size ≤ k := hk; have := HWs.out; omega))
  have OW := Lib.hid (show Only Noth w w10 from (O2.out.tr O7.out).trans ho10b (fun j hj hl => by omega))
  have O710 := Lib.hid (show Only (fun k => k = w.heap.size) W w10 from (O7.out.mono (fun _ h _ => h.elim)).trans ho10b (fun j hj _ => hj))
  have m0 : w10.cell? ⟨w.heap.size, 0, none⟩ = some (.slice A4 (n - 1) c4) := hbx.cell 0
  have m1 : w10.cell? ⟨w.heap.size, 1, none⟩ = some (.int .i64 J.lost) := hbx.cell 1
  clear hbx ho8 hg9 ho9 hS9 ho10 ho10b h7 h6
  go_wp2_with (refine wpList_store_whole rfl rfl 48 (.tmp 4) (.tmp 19) rfl (w.heap.size + 1) rfl _ rfl 48 _ BR10.out rfl (by simp [Value.oneCell']) (by kernel_rfl) ?_; intro w11 gr ho11 _; have GR := Lib.hid gr; have OR := Lib.hid ho11; have y0 := gr.cell 0; have y1 := gr.cell 1; clear gr ho11)
  refine bodyPost_ret (v := .agg #[.slice A4 (n - 1) c4, .int .i64 J.lost]) (by simp [results, Try.results36, go_sem, y0, y1]) rfl ?_
  have hlen : (J.T.eraseIdx i).length = n - 1 := by rw [List.length_eraseIdx_of_lt (by rw [HN.out]; exact hi), HN.out]
  have hcap : n - 1 ≤ c4 ∧ c4 ≤ maxLen := by
    obtain ⟨_, A', cap, hv, h1, h2, _⟩ := R10.out
    injection hv with _ _ e3
    subst e3
    exact ⟨h1, h2⟩
  have hOR : Only Noth w w11 := OW.out.trans OR.out (fun j hj hl => by have hj : j = w.heap.size + 1 := hj; omega)
  refine ⟨⟨_, rfl, _, rfl, A4, c4, css.eraseIdx i, by simp only [hlen], ?_, ?_, by simp only [hlen]; exact hcap.1, hcap.2⟩, hOR⟩
  · refine (R10.out.cs.only OR.out (fun k hk e => ?_)).mono (fun k hk _ => .inr ?_)
    · have hk : W.heap.size ≤ k := hk
      have e : k = w.heap.size + 1 := e
      have := HWs.out
      omega
    · have hk : W.heap.size ≤ k := hk
      have := HWs.out
      show w.heap.size ≤ k
      omega
  · exact (((HX.out.mono (fun k hk hl => (⟨hk, hl⟩ : S k ∧ k < w.heap.size))).only hOR (fun _ _ h => h)).mono (fun k hk _ => .inl hk.1)).erase i
end Go.Proofs.Ytemeglofblnnmaa
