/- slices.Delete, slices.IndexFunc over open texts; find. -/
import Derived.Test.YtemeglofblnnmaaDoorJnB
namespace Go.Proofs.YtemeglofblnnmaaDoor
open Go.RowKit Go.Lib
set_option linter.unusedVariables false
set_option linter.unusedSimpArgs false
set_option maxRecDepth 100000
attribute [local go_sem ↓] Go.wp_at_zero Go.wp_at_succ

section
variable {P : Program} {ops : Array Oper} {o : Oper} {a : Act} {w0 : World} {F : Nat → Prop}
/-- A slice expression whose answer is known. -/
theorem sure_slice {t : TypeId} {x : Operand} {lo hi : Option Operand} {X v : Value} {LO HI : Option Value} (hr : ∀ V : World, (Instr.slice t X LO HI none).run P V = .ok v V) (ht : P.underlying t = some (.slice (P.elem t))) (hw : Region.wanted o (yielded ops a.tmps) = true) (ho : o.op = .slice t x lo hi none)
    (hx : a.eval x = X) (hlo : lo.map a.eval = LO) (hhi : hi.map a.eval = HI) : Sure P ops (Only Noth) (Only F w0) o v a := by
  refine sure_value hw (fun w1 _ => ?_)
  subst hx hlo hhi
  unfold execOp
  simp only [ho, Option.map_none, run_sliceAt_slice _ _ _ _ _ _ ht, Sem.run_bind, hr w1, Result.andThen_ok, Sem.run_pure]
theorem sure_lit {v : Value} {g i : Nat} {cs : Array Value} {t : TypeId} (h : Hld w0 g t cs) (hi : cs[i]? = some v) (hF : ¬ F g) (hw : Region.wanted o (yielded ops a.tmps) = true)
    (he : ∀ w, w.cell? ⟨g, i, none⟩ = some v → (execOp a.eval o).run Tryd.prog w = .ok (.value v) w) : Sure Tryd.prog ops (Only Noth) (Only F w0) o v a :=
  sure_value hw (fun w1 k1 => he w1 (((h.only k1 hF).cell i).trans hi))
theorem app_op {t : TypeId} {s x : Operand} {S X v : Value} {w1 w2 : World} (ho : o.op = .call { callee := .builtin .append, args := #[s, x], argTypes := #[t, t] }) (hs : a.eval s = S) (hx : a.eval x = X) (hr : (Builtin.append_ #[t, t] o.type #[S, X]).run P w1 = .ok v w2) : (execOp a.eval o).run P w1 = .ok (.value v) w2 := by
  subst hs hx
  unfold execOp
  simp only [ho, resolve, invoke, builtin, Sem.run_bind, Sem.run_pure, Result.andThen_ok, List.map_toArray, List.map_cons, List.map_nil, hr]
/-- An operation that comes up alone; what it yields may be new. -/
theorem wpN_run1 {Q : Exit → Act → World → Prop} {md : Region.Mode} {i : Nat} {d : Option Tmp} {n : Nat} {listed : Array Bool} {w : World} (T : Value → World → Prop)
    (hr : Region.ready md ops listed = [i]) (hi : ops[i]? = some o) (hd : o.dst = d) (hw : Region.wanted o (yielded ops a.tmps) = true)
    (he : ∀ w1, Only Noth w w1 → ∃ v w2, (execOp a.eval o).run P w1 = .ok (.value v) w2 ∧ T v w2 ∧ Only F w0 w2)
    (h : ∀ v w2, T v w2 → Only F w0 w2 → wpN P md ops Q F w0 n (listed.setIfInBounds i true) (a.put d v) w2) : wpN P md ops Q F w0 (n + 1) listed a w := by
  subst hd
  refine wpN_one hr hi hw (fun w1 h1 => ?_)
  obtain ⟨v, w2, hrun, ht, ho⟩ := he w1 h1
  unfold Oper.wp
  rw [hrun]
  exact ⟨ho, h v w2 ht ho⟩
/-- One cell is stored. -/
theorem wpN_cell {Q : Exit → Act → World → Prop} {md : Region.Mode} {i n : Nat} {listed : Array Bool} {w : World} {ty t : TypeId} {x y : Operand} {g off : Nat} {cur : Array Value} {u v : Value}
    (hr : Region.ready md ops listed = [i]) (hi : ops[i]? = some o) (hw : Region.wanted o (yielded ops a.tmps) = true) (ho : o.op = .store ty x y) (hdst : o.dst = none) (hx : a.eval x = .pointer (some ⟨g, off, none⟩)) (hy : a.eval y = v)
    (hg : Hld w g t cur) (hu : cur[off]? = some u) (hrun : ∀ w1, w1.cell? ⟨g, off, none⟩ = some u → w1.frozen? ⟨g, off, none⟩ = false → (Instr.storeAt ty (.pointer (some ⟨g, off, none⟩)) v).run P w1 = .ok () (w1.setCell ⟨g, off, none⟩ v))
    (hS : Only F w0 w) (hF : g < w0.heap.size → F g)
    (K : ∀ w1 w2, Only Noth w w1 → Hld w2 g t (cur.setIfInBounds off v) → Only (fun k => k = g) w1 w2 → Only F w0 w2 → wpN P md ops Q F w0 n (listed.setIfInBounds i true) a w2) : wpN P md ops Q F w0 (n + 1) listed a w := by
  refine wpN_one hr hi hw (fun w1 k1 => ?_)
  have hg1 := hg.only k1 (fun h => h)
  have hO := (Only.refl (fun k => k = g) w1).setCell (p := ⟨g, off, none⟩) (fun _ => rfl) v
  have hE : Only F w0 (w1.setCell ⟨g, off, none⟩ v) := (only_up w0 _ _ hS k1).trans hO (fun j hj hl => by have hj : j = g := hj; subst hj; exact hF hl)
  have := And.intro hE (K w1 _ k1 (hg1.set_ off v) hO hE)
  have hp : ∀ v, a.put none v = a := fun _ => rfl
  unfold Oper.wp execOp
  simp only [ho, hx, hy, Sem.run_bind, hrun w1 ((hg1.cell off).trans hu) (hg1.free off), Result.andThen_ok, Sem.run_pure]
  simpa [Oper.upon, hdst, hp] using this
end
/-- The zero cells of one text. -/
theorem zero_text (w : World) : (zeroValue 79).run Tryd.prog w = .ok (.agg (newCells 0 0 0).toArray) w := by kernel_rfl
theorem newCells_len (a b : Int) (n : Nat) : (newCells a b n).length = 132 := by simp [newCells]
theorem run_clear_text (w : World) (ty : TypeId) (g o c : Nat) (cur : Array Value) (hg : Hld w g 79 cur) (hf : o + 132 ≤ cur.size) :
    (Builtin.clear_ #[72] ty #[.slice (some ⟨g, o, none⟩) 1 c]).run Tryd.prog w = .ok (.tuple #[]) (w.setRow g (cur.toList.take o ++ newCells 0 0 0 ++ cur.toList.drop (o + 132)).toArray) := by
  have h1 : ∀ v ∈ newCells 0 0 0, v.oneCell' = true := (TxIs.new w (fun _ => True) 0 0 0).one
  have hzl : (Builtin.zeroCells (newCells 0 0 0).toArray 1).toList = newCells 0 0 0 := by kernel_rfl
  have hst := run_storeCells_at Tryd.prog g o 79 (newCells 0 0 0) 0 cur w hg (by rw [newCells_len]; omega) h1
  rw [newCells_len] at hst
  simp only [Nat.add_zero] at hst
  have hc : (Value.agg (newCells 0 0 0).toArray).cells = (newCells 0 0 0).toArray := rfl
  first
    | (simp [Builtin.clear_, run_underlying Tryd.underlying72, zero_text, hc, hzl, hst]; done)
    | (have hz79 : Tryd.zeroCells79 = (newCells 0 0 0).toArray := by kernel_rfl
       simp [Builtin.clear_, run_underlying Tryd.underlying72, zero_text, hc, hzl, hst, hz79])
theorem erase_flat {css : List (List Value)} (i : Nat) : (css.eraseIdx i).flatten = (css.take i).flatten ++ (css.drop (i + 1)).flatten := by rw [List.eraseIdx_eq_take_drop_succ, List.flatten_append]
theorem flat_len132 {css : List (List Value)} (h : ∀ cs ∈ css, cs.length = 132) : css.flatten.length = css.length * 132 := by
  induction css with
  | nil => rfl
  | cons a t ih =>
    rw [List.flatten_cons, List.length_append, h a (by simp), ih (fun cs hc => h cs (by simp [hc])), List.length_cons]
    omega
theorem flat_take {css : List (List Value)} (h : ∀ cs ∈ css, cs.length = 132) (k : Nat) : css.flatten.take (k * 132) = (css.take k).flatten := by
  induction css generalizing k with
  | nil => simp
  | cons a t ih =>
    cases k with
    | zero => simp
    | succ k =>
      have ha := h a (by simp)
      rw [List.flatten_cons, List.take_succ_cons, List.flatten_cons, List.take_append, ha, List.take_of_length_le (by omega), show (k + 1) * 132 - 132 = k * 132 by omega, ih (fun cs hc => h cs (by simp [hc]))]
theorem flat_drop {css : List (List Value)} (h : ∀ cs ∈ css, cs.length = 132) (k : Nat) : css.flatten.drop (k * 132) = (css.drop k).flatten := by
  have h1 : css.flatten = (css.take k).flatten ++ (css.drop k).flatten := by rw [← List.flatten_append, List.take_append_drop]
  have h2 := flat_take h k
  have h3 := List.take_append_drop (k * 132) css.flatten
  rw [h2] at h3
  rw [h1] at h3 ⊢
  exact List.append_cancel_left h3
set_option maxHeartbeats 8000000 in
theorem del_run (A : Option Addr) (c i : Nat) (css : List (List Value)) (F : Nat → Prop) (hlen : ∀ cs ∈ css, cs.length = 132) (hone : ∀ u ∈ css.flatten, u.oneCell' = true) (hi : i < css.length) (w : World) (h : Row w F 79 132 (.slice A css.length c) css.length css.flatten) :
    Calls Tryd.prog 37 #[.slice A css.length c, .int .i64 (i : Int), .int .i64 ((i : Int) + 1)] w fun e w' => e = .returned (.slice A (css.length - 1) c) ∧ Row w' (RowB A c) 79 132 (.slice A (css.length - 1) c) (css.length - 1) (css.eraseIdx i).flatten ∧ Only (RowB A c) w w' := by
  obtain ⟨hl, A', cap, hv, h1, h2, h3⟩ := h
  injection hv with e1 _ e3
  subst e1 e3
  rcases h3 with h3 | ⟨g, cur, rfl, hF, hg, hc, ht⟩
  · omega
  obtain ⟨n, hn⟩ : ∃ n, css.length = n := ⟨_, rfl⟩
  rw [hn] at hl h1 ht hi ⊢
  obtain ⟨i0, hti, hz0, hz1, hz2⟩ := info_parts txinfo
  have hTS := Tryd.underlying72
  have hz := fun V => Tryd.sizeOf79 V
  have hel : Tryd.prog.elem 72 = 79 := by kernel_rfl
  have htT : Tryd.prog.underlying 72 = some (.slice (Tryd.prog.elem 72)) := by kernel_rfl
  have hc63 : c ≤ 9223372036854775807 := by unfold maxLen at h2; omega
  have hfl : ((css.drop (i + 1)).flatten).length = (n - (i + 1)) * 132 := by rw [flat_len132 (fun cs hc => hlen cs (List.mem_of_mem_drop hc)), List.length_drop, hn]
  have hft : ((css.take i).flatten).length = i * 132 := by rw [flat_len132 (fun cs hc => hlen cs (List.mem_of_mem_take hc)), List.length_take, hn]; congr 1; omega
  have hcur : n * 132 ≤ cur.size := Nat.le_trans (Nat.mul_le_mul_right _ h1) hc
  have hcd : ∀ j u, ((css.drop (i + 1)).flatten)[j]? = some u → cur[(i + 1) * 132 + j]? = some u := fun j u hj => by
    rw [← flat_drop hlen, List.getElem?_drop, ← ht, List.getElem?_take] at hj
    split at hj
    · simpa using hj
    · cases hj
  -- the slices that are cut
  obtain ⟨a2, ha2, ha2c⟩ : ∃ a2 : Addr, (if c = i + 1 then (some ⟨g, 0, none⟩ : Option Addr) else some ⟨g, (i + 1) * 132, none⟩) = some a2 ∧ (n - (i + 1) ≠ 0 → a2 = ⟨g, (i + 1) * 132, none⟩) := by
    by_cases hq : c = i + 1
    · exact ⟨⟨g, 0, none⟩, by rw [if_pos hq], fun hne => by omega⟩
    · exact ⟨⟨g, (i + 1) * 132, none⟩, by rw [if_neg hq], fun _ => rfl⟩
  obtain ⟨X13, hr13⟩ : ∃ X, ∀ V, (Instr.slice 72 (.slice (some ⟨g, 0, none⟩) n c) (some (.int .i64 (i : Int))) (some (.int .i64 ((i : Int) + 1))) (some (.int .i64 (n : Int)))).run Tryd.prog V = .ok X V := by
    refine ⟨sliced (some ⟨g, 0, none⟩) (i : Int).toNat ((i : Int) + 1).toNat (n : Int).toNat 132, fun V => ?_⟩
    rw [run_slice_lhm V 72 (some ⟨g, 0, none⟩) n c htT .i64 .i64 .i64 (i : Int) ((i : Int) + 1) (n : Int) (by omega) (by omega) (by omega) (by omega), hel, hz]
    rfl
  have hr22 : ∀ V, (Instr.slice 72 (.slice (some ⟨g, 0, none⟩) n c) none (some (.int .i64 (i : Int))) none).run Tryd.prog V = .ok (.slice (some ⟨g, 0, none⟩) i c) V := fun V => by
    rw [run_slice_h V 72 (some ⟨g, 0, none⟩) n c htT .i64 (i : Int) (by omega) (by omega), hel, hz]
    simp [Result.andThen, sliced, Addr.add]
  have hr25 : ∀ V, (Instr.slice 72 (.slice (some ⟨g, 0, none⟩) n c) (some (.int .i64 ((i : Int) + 1))) none none).run Tryd.prog V = .ok (.slice (some a2) (n - (i + 1)) (c - (i + 1))) V := fun V => by
    rw [run_slice_l V 72 (some ⟨g, 0, none⟩) n c htT .i64 ((i : Int) + 1) (by omega) (by omega), hel, hz, ← ha2]
    simp [Result.andThen, sliced, show ((i : Int) + 1).toNat = i + 1 by omega, add_plain']
  have hr31 : ∀ V, (Instr.slice 72 (.slice (some ⟨g, 0, none⟩) (n - 1) c) (some (.int .i64 ((n - 1 : Nat) : Int))) (some (.int .i64 (n : Int))) none).run Tryd.prog V = .ok (.slice (some ⟨g, (n - 1) * 132, none⟩) 1 (c - (n - 1))) V := fun V => by
    rw [run_slice_lh V 72 (some ⟨g, 0, none⟩) (n - 1) c htT .i64 .i64 ((n - 1 : Nat) : Int) (n : Int) (by omega) (by omega) (by omega), hel, hz]
    have hne : ¬ c = n - 1 := by omega
    simp [Result.andThen, sliced, hne, add_plain', show ((n : Int)).toNat = n by omega, show n - (n - 1) = 1 by omega]
  obtain ⟨cur2, hcur2⟩ : ∃ cur2, (cur.toList.take (i * 132) ++ (css.drop (i + 1)).flatten ++ cur.toList.drop (i * 132 + (n - (i + 1)) * 132)).toArray = cur2 := ⟨_, rfl⟩
  have hsz2 : cur2.size = cur.size := by
    rw [← hcur2]
    simp only [List.size_toArray, List.length_append, List.length_take, List.length_drop, Array.length_toList, hfl]
    omega
  have ht2 : cur2.toList.take ((n - 1) * 132) = (css.eraseIdx i).flatten := by
    have ht3 : cur.toList.take (i * 132) = (css.take i).flatten := by
      rw [← flat_take hlen, ← ht, List.take_take]
      congr 1
      omega
    rw [← hcur2, erase_flat, ← ht3]
    simp only [List.append_assoc]
    rw [← List.append_assoc]
    apply List.take_left'
    rw [List.length_append, hfl, List.length_take, Array.length_toList]
    omega
  have hrun : ∀ W, Only Noth w.drew W → (Builtin.append_ #[72, 72] 72 #[.slice (some ⟨g, 0, none⟩) i c, .slice (some a2) (n - (i + 1)) (c - (i + 1))]).run Tryd.prog W = .ok (.slice (some ⟨g, 0, none⟩) (n - 1) c) (W.setRow g cur2) := fun W hW => by
    have hgW : W.heap[g]? = some (.cells cur 79 (0, 0)) := (hW.block g (Array.getElem?_eq_some_iff.1 hg).1 (fun h => h)).trans hg
    have := run_append_room (P := Tryd.prog) W 72 72 79 i0 hTS hti g i c cur hgW a2 (n - (i + 1)) (c - (i + 1)) (css.drop (i + 1)).flatten (by rw [hz1]; exact hfl) (fun j u hj => by
        have hm : n - (i + 1) ≠ 0 := fun h0 => by
          rw [h0, Nat.zero_mul] at hfl
          rw [List.eq_nil_of_length_eq_zero hfl] at hj
          cases hj
        rw [ha2c hm, add_plain', cell_of_row W g _ cur 79 (0, 0) hgW]
        exact hcd j u hj) (fun u hu => hone u (by
          obtain ⟨cs, h1, h2⟩ := List.mem_flatten.1 hu
          exact List.mem_flatten.2 ⟨cs, List.mem_of_mem_drop h1, h2⟩)) (by omega) (by rw [hz1, hfl]; omega)
    rw [hz1, hfl, hcur2] at this
    rw [this]
    congr 2
    omega
  have HT2 := Lib.hid ht2
  have HRUN := Lib.hid hrun
  have HR22 := Lib.hid hr22
  have HR25 := Lib.hid hr25
  have HG := Lib.hid (show Hld w g 79 cur from hg)
  have hin : ¬ ((i : Int) = (i : Int) + 1) := by omega
  have hn1 : ((n - 1 : Nat) : Int) ≤ 9223372036854775807 := by omega
  have hi0 : (0 : Int) ≤ i := by omega
  have hi1 : (i : Int) < n := by omega
  clear hl hone hg ht hcd ha2 ha2c hcur2 ht2 hrun hr22 hr25 hft hz htT hel hTS hlen hfl
  go_enter Tryd.func37, Tryd.ntmps37
  go_wp2_with fail
  refine wp_region_N (fun k => k = g) (by kernel_rfl) ?_
  refine wpN_take (i := 0) (d := some 20) rfl rfl (by kernel_rfl) (by kernel_rfl) (by kernel_rfl) (fun _ _ _ h => h) (sure_value (v := .slice (some ⟨g, 0, none⟩) n c) (by rfl) (fun v1 h1 => by first | rfl | (go_simp; done) | (go_simp; intro h9; exact absurd h9 (by omega)) | (go_simp; assumption))) (Only.refl _ _) ?_
  simp only [Act.put, List.setIfInBounds_toArray, List.set_cons_zero, List.set_cons_succ]
  refine wpN_take (i := 1) (d := some 21) rfl rfl (by kernel_rfl) (by kernel_rfl) (by kernel_rfl) (fun _ _ _ h => h) (sure_value (v := .int .i64 (i : Int)) (by rfl) (fun v1 h1 => by first | rfl | (go_simp; done) | (go_simp; intro h9; exact absurd h9 (by omega)) | (go_simp; assumption))) (Only.refl _ _) ?_
  simp only [Act.put, List.setIfInBounds_toArray, List.set_cons_zero, List.set_cons_succ]
  refine wpN_take (i := 2) (d := some 22) rfl rfl (by kernel_rfl) (by kernel_rfl) (by kernel_rfl) (fun _ _ _ h => h) (sure_slice HR22.out (by kernel_rfl) (by rfl) rfl rfl rfl rfl) (Only.refl _ _) ?_
  simp only [Act.put, List.setIfInBounds_toArray, List.set_cons_zero, List.set_cons_succ]
  refine wpN_take (i := 3) (d := some 23) rfl rfl (by kernel_rfl) (by kernel_rfl) (by kernel_rfl) (fun _ _ _ h => h) (sure_value (v := .slice (some ⟨g, 0, none⟩) n c) (by rfl) (fun v1 h1 => by first | rfl | (go_simp; done) | (go_simp; intro h9; exact absurd h9 (by omega)) | (go_simp; assumption))) (Only.refl _ _) ?_
  simp only [Act.put, List.setIfInBounds_toArray, List.set_cons_zero, List.set_cons_succ]
  refine wpN_take (i := 4) (d := some 24) rfl rfl (by kernel_rfl) (by kernel_rfl) (by kernel_rfl) (fun _ _ _ h => h) (sure_value (v := .int .i64 ((i : Int) + 1)) (by rfl) (fun v1 h1 => by first | rfl | (go_simp; done) | (go_simp; intro h9; exact absurd h9 (by omega)) | (go_simp; assumption))) (Only.refl _ _) ?_
  simp only [Act.put, List.setIfInBounds_toArray, List.set_cons_zero, List.set_cons_succ]
  refine wpN_take (i := 5) (d := some 25) rfl rfl (by kernel_rfl) (by kernel_rfl) (by kernel_rfl) (fun _ _ _ h => h) (sure_slice HR25.out (by kernel_rfl) (by rfl) rfl rfl rfl rfl) (Only.refl _ _) ?_
  simp only [Act.put, List.setIfInBounds_toArray, List.set_cons_zero, List.set_cons_succ]
  refine wpN_run1 (i := 6) (d := some 26) (fun v W => v = .slice (some ⟨g, 0, none⟩) (n - 1) c ∧ Hld W g 79 cur2) (by kernel_rfl) rfl rfl (by rfl) (fun w1 h1 => ?_) ?_
  · exact ⟨_, _, app_op rfl rfl rfl (HRUN.out w1 h1), ⟨rfl, setRow_heap w1 g cur cur2 79 (0, 0) (HG.out.only (Only.undrew h1) (fun h => h))⟩, ((h1.mono (G := fun k => k = g) (fun j hj _ => hj.elim)).setRow (g := g) (fun _ => rfl) cur2)⟩
  rintro v w2 ⟨rfl, hg2⟩ ho2
  refine wpN_rebase ho2 ?_
  have HG2 := Lib.hid hg2
  have OA := Lib.hid (Only.undrew ho2)
  clear hg2 ho2
  simp only [Act.put, List.setIfInBounds_toArray, List.set_cons_zero, List.set_cons_succ]
  refine wpN_take (i := 7) (d := some 0) rfl rfl (by kernel_rfl) (by kernel_rfl) (by kernel_rfl) (fun _ _ _ h => h) (sure_value (v := .slice (some ⟨g, 0, none⟩) (n - 1) c) (by rfl) (fun v1 h1 => by first | rfl | (go_simp; done) | (go_simp; intro h9; exact absurd h9 (by omega)) | (go_simp; assumption))) (Only.refl _ _) ?_
  simp only [Act.put, List.setIfInBounds_toArray, List.set_cons_zero, List.set_cons_succ]
  refine wpN_done (by kernel_rfl) (fun w3 ho => ?_) _
  replace HG2 := Lib.hid (HG2.out.only ho (fun h => h))
  replace OA := Lib.hid (OA.out.trans ho (fun j hj _ => hj.elim))
  clear ho HRUN HR22 HR25 HG
  have hclr : ∀ ty, (Builtin.clear_ #[72] ty #[.slice (some ⟨g, (n - 1) * 132, none⟩) 1 (c - (n - 1))]).run Tryd.prog w3 = .ok (.tuple #[]) (w3.setRow g (cur2.toList.take ((n - 1) * 132) ++ newCells 0 0 0 ++ cur2.toList.drop ((n - 1) * 132 + 132)).toArray) := fun ty => run_clear_text w3 ty g ((n - 1) * 132) _ cur2 HG2.out (by omega)
  obtain ⟨cur3, hcur3⟩ : ∃ cur3, (cur2.toList.take ((n - 1) * 132) ++ newCells 0 0 0 ++ cur2.toList.drop ((n - 1) * 132 + 132)).toArray = cur3 := ⟨_, rfl⟩
  rw [hcur3] at hclr
  have hsz3 : cur3.size = cur.size := by
    rw [← hcur3]
    simp only [List.size_toArray, List.length_append, List.length_take, List.length_drop, Array.length_toList, newCells_len]
    omega
  have HT3 := Lib.hid (show cur3.toList.take ((n - 1) * 132) = (css.eraseIdx i).flatten by
    rw [← HT2.out, ← hcur3]
    simp only [List.append_assoc]
    apply List.take_left'
    rw [List.length_take, Array.length_toList]
    omega)
  clear hcur3
  go_wp2
  go_ret
  refine ⟨rfl, ⟨by rw [← HT3.out, List.length_take, Array.length_toList]; omega, _, c, rfl, by omega, h2, .inr ⟨g, cur3, rfl, ⟨by omega, rfl⟩, setRow_heap w3 g cur2 cur3 79 (0, 0) HG2.out, by omega, HT3.out⟩⟩, ?_⟩
  exact (OA.out.mono (G := RowB (some ⟨g, 0, none⟩) c) (fun j hj _ => by have hj : j = g := hj; subst hj; exact ⟨by omega, rfl⟩)).setRow (fun _ => ⟨by omega, rfl⟩) _
end Go.Proofs.YtemeglofblnnmaaDoor
