/- Package crdt: New, Len, Get, Put. -/
import Derived.Test.YtdclkbhkboaafaaCm
import Derived.Test.YtdclkbhkboaafaaOrd
namespace Go.Proofs.Ytdclkbhkboaafaa
open Go.RowKit Go.Lib
set_option linter.unusedVariables false
set_option linter.unusedSimpArgs false
set_option maxRecDepth 100000
attribute [local go_sem ↓] Go.wp_at_zero Go.wp_at_succ

section
variable {ops : Array Oper} {o : Oper} {a : Act} {w0 : World} {F : Nat → Prop}
theorem sure_lit {v : Value} {g i : Nat} {cs : Array Value} {t : TypeId} (h : Hld w0 g t cs) (hi : cs[i]? = some v) (hF : ¬ F g) (hw : Region.wanted o (yielded ops a.tmps) = true)
    (he : ∀ w, w.cell? ⟨g, i, none⟩ = some v → (execOp a.eval o).run Try.prog w = .ok (.value v) w) : Sure Try.prog ops (Only Noth) (Only F w0) o v a :=
  sure_value hw (fun w1 k1 => he w1 (((h.only k1 hF).cell i).trans hi))
theorem sure_five {g : Nat} {x0 x1 x2 x3 x4 : Value} {t : TypeId} (h : Hld w0 g t #[x0, x1, x2, x3, x4]) (hF : ¬ F g) (hw : Region.wanted o (yielded ops a.tmps) = true)
    (he : ∀ w, w.cell? ⟨g, 0, none⟩ = some x0 → w.cell? ⟨g, 1, none⟩ = some x1 → w.cell? ⟨g, 2, none⟩ = some x2 → w.cell? ⟨g, 3, none⟩ = some x3 → w.cell? ⟨g, 4, none⟩ = some x4 → (execOp a.eval o).run Try.prog w = .ok (.value (.agg #[x0, x1, x2, x3, x4])) w) : Sure Try.prog ops (Only Noth) (Only F w0) o (.agg #[x0, x1, x2, x3, x4]) a :=
  sure_value hw (fun w1 k1 => by obtain ⟨h0, h1, h2, h3, h4⟩ := (h.only k1 hF).five; exact he w1 h0 h1 h2 h3 h4)
/-- A look-up with 'ok' in a map of entries. -/
theorem sure_look {b : Nat} {L : List Ent} {k : ByteArray} {m x : Operand} (h : MapIs w0 b L) (hF : ¬ F b) (hk : k.size ≤ 9223372036854775807) (hw : Region.wanted o (yielded ops a.tmps) = true) (ho : o.op = .lookup 60 m x true) (hm : a.eval m = .map (some b)) (hx : a.eval x = .string k) :
    Sure Try.prog ops (Only Noth) (Only F w0) o (.tuple #[.agg (look k L).arr, .bool (cget k.data.toList L).isSome]) a :=
  sure_value hw (fun w1 k1 => by
    have := look_ok_run (h.only k1 hF) k hk
    simp [execOp, ho, hm, hx, this, Result.andThen])
/-- An entry is stored in a map of entries. -/
theorem wpN_map {Q : Exit → Act → World → Prop} {md : Region.Mode} {w : World} {i n : Nat} {listed : Array Bool} {b : Nat} {L : List Ent} {e : Ent} {m x v : Operand} (hr : Region.ready md ops listed = [i]) (hi : ops[i]? = some o) (hw : Region.wanted o (yielded ops a.tmps) = true) (hdst : o.dst = none)
    (ho : o.op = .mapUpdate 60 m x v) (hm : a.eval m = .map (some b)) (hx : a.eval x = .string e.key) (hv : a.eval v = .agg e.arr) (h : MapIs w b L) (hk : e.key.size ≤ 9223372036854775807) (hn : L.length < 9223372036854775807) (hS : Only F w0 w) (hF : F b)
    (K : ∀ w2, MapIs w2 b (cput e L) → Only (fun k => k = b) w w2 → Only F w0 w2 → wpN Try.prog md ops Q F w0 n (listed.setIfInBounds i true) a w2) : wpN Try.prog md ops Q F w0 (n + 1) listed a w := by
  refine wpN_one hr hi hw (fun w1 k1 => ?_)
  obtain ⟨w', hrun, h2, h3⟩ := put_run (h.only k1 (fun h => h)) e hk hn
  have hA : Only (fun k => k = b) w w' := (k1.mono (G := fun k => k = b) (fun j hj _ => hj.elim)).trans h3 (fun j hj _ => hj)
  have hE : Only F w0 w' := hS.trans hA (fun j hj _ => by have hj : j = b := hj; rw [hj]; exact hF)
  have hp : ∀ u, a.put none u = a := fun _ => rfl
  have := And.intro hE (K w' h2 hA hE)
  unfold Oper.wp
  simp [execOp, ho, hm, hx, hv, hrun, Result.andThen]
  simpa [Oper.upon, hdst, hp] using this
end
/-- How many a map of entries has. -/
theorem wpList_len_map {ops : Array Oper} {rest : List Oper} {o : Oper} {a : Act} {Q : Exit → Act → World → Prop} (w : World) (hg : o.guard = none) (m : Operand) (hop : o.op = Op.call { callee := Callee.builtin Builtin.len, args := #[m], argTypes := #[60] }) (b : Nat) (L : List Ent) (hm : a.eval m = .map (some b)) (h : MapIs w b L)
    (K : wpList Try.prog ops Q rest (a.put o.dst (.int .i64 L.length)) w) : wpList Try.prog ops Q (o :: rest) a w := by
  refine wpList_len_own w hg m 60 hop 9 34 Try.underlying60 entElem b L.length (mapD L) hm h ?_
  rw [size_map]
  exact K
/-- A map of entries behind its pointer. -/
structure CmAt (w : World) (g b : Nat) (L : List Ent) : Prop where
  box : Hld w g 62 #[.map (some b)]
  own : MapIs w b L
  srt : Srt L
  ok : ∀ e ∈ L, e.check = 0
  len : L.length ≤ 256
theorem CmAt.ne {w : World} {g b : Nat} {L : List Ent} (h : CmAt w g b L) : g ≠ b := fun e => by
  have h1 := h.box
  obtain ⟨es, clock, h2, _⟩ := h.own
  subst e
  unfold Hld at h1
  rw [h1] at h2
  cases h2
theorem CmAt.only {w w' : World} {F : Nat → Prop} {g b : Nat} {L : List Ent} (h : CmAt w g b L) (ho : Only F w w') (hg : ¬ F g) (hb : ¬ F b) : CmAt w' g b L := ⟨h.box.only ho hg, h.own.only ho hb, h.srt, h.ok, h.len⟩
theorem CmAt.noth {w w' : World} {g b : Nat} {L : List Ent} (h : CmAt w g b L) (ho : Only Noth w w') : CmAt w' g b L := h.only ho (fun h => h) (fun h => h)
theorem cput_ok {L : List Ent} {e : Ent} (h : ∀ x ∈ L, x.check = 0) (he : e.check = 0) : ∀ x ∈ cput e L, x.check = 0 := fun x hx => by
  rcases cput_mem.1 hx with rfl | ⟨hx, _⟩
  · exact he
  · exact h x hx
theorem cm_new (w : World) : Calls Try.prog 13 #[] w fun e w' => (∃ g b, e = .returned (.pointer (some ⟨g, 0, none⟩)) ∧ CmAt w' g b [] ∧ w.heap.size ≤ g ∧ w.heap.size ≤ b) ∧ Only Noth w w' := by
  have hmm := @run_makeMap Try.prog
  go_enter Try.func13, Try.ntmps13
  go_wp2
  go_ret
  refine ⟨⟨_, w.heap.size, rfl, ⟨Hld.at_ _ _ _ _ (by simp), (made_is w).only ((Only.refl Noth _).alloc _) (fun h => h), List.Pairwise.nil, by simp, by simp⟩, by omega, by omega⟩, ((Only.refl Noth w).alloc _).alloc _⟩
set_option maxHeartbeats 4000000 in
theorem cm_put (g b : Nat) (L : List Ent) (e : Ent) (h1 : e.key.size ≤ 9223372036854775807) (h2 : e.val.size ≤ 9223372036854775807) (w : World) (h : CmAt w g b L) :
    Calls Try.prog 14 #[.pointer (some ⟨g, 0, none⟩), .agg e.arr] w fun r w' => r = .returned (.tuple #[.bool (cstep L e).2.1, .int .i64 (cstep L e).2.2]) ∧ CmAt w' g b (cstep L e).1 ∧ Only (fun k => k = b) w w' := by
  have M := Lib.hid h
  have B0 := Lib.hid (Hld.new w 34 e.arr)
  have ON := Lib.hid ((Only.refl Noth w).alloc (.cells e.arr 34))
  have hlen := h.len
  have hl0 : (0 : Int) ≤ L.length := by omega
  clear h
  go_enter Try.func14, Try.ntmps14
  go_wp2_with fail
  refine (entry_check e h1 h2 _).mono ?_
  rintro r w1 ⟨rfl, ho⟩
  have ON1 := Lib.hid (ON.out.tr ho)
  have B1 := Lib.hid (B0.out.only ho (fun h => h))
  have M1 := Lib.hid (M.out.noth ON1.out)
  clear ho
  by_cases hc : e.check ≠ 0
  · have hc' : (e.check != 0) = true := by simpa using hc
    have HC := Lib.hid (show cstep L e = (L, false, e.check) by unfold cstep; rw [if_pos hc])
    clear hc
    go_wp2
    refine bodyPost_ret (v := .tuple #[.bool false, .int .i64 e.check]) (by simp [results, Try.results14, go_sem]) rfl ?_
    rw [HC.out]
    exact ⟨rfl, M1.out, ON1.out.mono (fun j hj _ => hj.elim)⟩
  have hc : e.check = 0 := Decidable.not_not.1 hc
  have H0 := Lib.hid hc
  rw [hc]
  clear hc
  go_wp2_with fail
  refine wp_region_N Noth (by kernel_rfl) ?_
  refine wpN_take (i := 0) (d := some 17) rfl rfl (by kernel_rfl) (by kernel_rfl) (by kernel_rfl) (fun _ _ _ h => h) (sure_value (v := .pointer (some ⟨g, 0, none⟩)) (by rfl) (fun v1 h1 => by first | rfl | go_simp)) (Only.refl _ _) ?_
  simp only [Act.put, List.setIfInBounds_toArray, List.set_cons_zero, List.set_cons_succ]
  refine wpN_take (i := 1) (d := some 18) rfl rfl (by kernel_rfl) (by kernel_rfl) (by kernel_rfl) (fun _ _ _ h => h) (sure_value (v := .pointer (some ⟨g, 0, none⟩)) (by rfl) (fun v1 h1 => by first | rfl | go_simp)) (Only.refl _ _) ?_
  simp only [Act.put, List.setIfInBounds_toArray, List.set_cons_zero, List.set_cons_succ]
  refine wpN_take (i := 2) (d := some 19) rfl rfl (by kernel_rfl) (by kernel_rfl) (by kernel_rfl) (fun _ _ _ h => h) (sure_value (v := .pointer (some ⟨g, 0, none⟩)) (by rfl) (fun v1 h1 => by first | rfl | go_simp)) (Only.refl _ _) ?_
  simp only [Act.put, List.setIfInBounds_toArray, List.set_cons_zero, List.set_cons_succ]
  refine wpN_take (i := 3) (d := some 20) rfl rfl (by kernel_rfl) (by kernel_rfl) (by kernel_rfl) (fun _ _ _ h => h) (sure_lit (v := .map (some b)) (i := 0) M1.out.box.drew rfl (fun h => h) (by rfl) (fun _ h => by go_simp)) (Only.refl _ _) ?_
  simp only [Act.put, List.setIfInBounds_toArray, List.set_cons_zero, List.set_cons_succ]
  refine wpN_take (i := 4) (d := some 21) rfl rfl (by kernel_rfl) (by kernel_rfl) (by kernel_rfl) (fun _ _ _ h => h) (sure_value (v := .pointer (some ⟨w.heap.size, 0, none⟩)) (by rfl) (fun v1 h1 => by first | rfl | go_simp)) (Only.refl _ _) ?_
  simp only [Act.put, List.setIfInBounds_toArray, List.set_cons_zero, List.set_cons_succ]
  refine wpN_take (i := 5) (d := some 22) rfl rfl (by kernel_rfl) (by kernel_rfl) (by kernel_rfl) (fun _ _ _ h => h) (sure_lit (v := .string e.key) (i := 0) B1.out.drew rfl (fun h => h) (by rfl) (fun _ h => by go_simp)) (Only.refl _ _) ?_
  simp only [Act.put, List.setIfInBounds_toArray, List.set_cons_zero, List.set_cons_succ]
  refine wpN_take (i := 6) (d := some 23) rfl rfl (by kernel_rfl) (by kernel_rfl) (by kernel_rfl) (fun _ _ _ h => h) (sure_look (k := e.key) (M1.out.own.only (Only.refl Noth w1).drew (fun h => h)) (fun h => h) h1 (by rfl) rfl rfl rfl) (Only.refl _ _) ?_
  simp only [Act.put, List.setIfInBounds_toArray, List.set_cons_zero, List.set_cons_succ]
  obtain ⟨old, hold⟩ : ∃ old, look e.key L = old := ⟨_, rfl⟩
  obtain ⟨is, his⟩ : ∃ is, (cget e.key.data.toList L).isSome = is := ⟨_, rfl⟩
  rw [hold, his]
  have HOLD := Lib.hid hold
  have HIS := Lib.hid his
  clear hold his
  refine wpN_take (i := 7) (d := some 16) rfl rfl (by kernel_rfl) (by kernel_rfl) (by kernel_rfl) (fun _ _ _ h => h) (sure_value (v := .tuple #[.agg old.arr, .bool is]) (by rfl) (fun v1 h1 => by first | rfl | go_simp)) (Only.refl _ _) ?_
  simp only [Act.put, List.setIfInBounds_toArray, List.set_cons_zero, List.set_cons_succ]
  refine wpN_take (i := 8) (d := some 24) rfl rfl (by kernel_rfl) (by kernel_rfl) (by kernel_rfl) (fun _ _ _ h => h) (sure_value (v := .agg old.arr) (by rfl) (fun v1 h1 => by first | rfl | go_simp)) (Only.refl _ _) ?_
  simp only [Act.put, List.setIfInBounds_toArray, List.set_cons_zero, List.set_cons_succ]
  refine wpN_take (i := 9) (d := some 25) rfl rfl (by kernel_rfl) (by kernel_rfl) (by kernel_rfl) (fun _ _ _ h => h) (sure_value (v := .bool is) (by rfl) (fun v1 h1 => by first | rfl | go_simp)) (Only.refl _ _) ?_
  simp only [Act.put, List.setIfInBounds_toArray, List.set_cons_zero, List.set_cons_succ]
  refine wpN_alloc (i := 10) (d := some 7) (z := Ent.none.arr) (t := 34) (by kernel_rfl) rfl rfl (by rfl) (Only.refl _ _) (fun _ => rfl) ?_
  intro w2 p ho2 P1 hp
  simp only [Act.put, List.setIfInBounds_toArray, List.set_cons_zero, List.set_cons_succ]
  refine wpN_store (i := 11) (g := p) (cs' := old.arr) (by kernel_rfl) rfl (by rfl) rfl rfl rfl rfl P1 (fun h => absurd h (Nat.not_lt.2 hp)) rfl (by simp [Value.oneCell']) (by kernel_rfl) ho2 ?_
  intro w3 w4 ho3 P2 ho4 hS4
  refine wpN_take (i := 12) (d := some 8) rfl rfl (by kernel_rfl) (by kernel_rfl) (by kernel_rfl) (fun _ _ _ h => h) (sure_value (v := .bool is) (by rfl) (fun v1 h1 => by first | rfl | go_simp)) hS4 ?_
  simp only [Act.put, List.setIfInBounds_toArray, List.set_cons_zero, List.set_cons_succ]
  refine wpN_done (by kernel_rfl) (fun w5 ho5 => ?_) _
  have ON5 := Lib.hid (show Only Noth w1 w5 from Only.undrew (only_up _ _ _ hS4 ho5))
  have PB := Lib.hid (P2.only ho5 (fun h => h))
  have M5 := Lib.hid (M1.out.noth ON5.out)
  have B5 := Lib.hid (B1.out.only ON5.out (fun h => h))
  have OA := Lib.hid (ON1.out.tr ON5.out)
  clear ho2 P1 ho3 P2 ho4 hS4 ho5 hp
  obtain ⟨p0, p1, p2, p3, p4⟩ := PB.out.five
  obtain ⟨b0, b1, b2, b3, b4⟩ := B5.out.five
  have NE := Lib.hid (show ¬ (w.heap.size = b) from fun e => by have := M.out.own.lt; omega)
  cases is
  · have hnone : cget e.kb L = none := by
      have := HIS.out
      cases hg : cget e.key.data.toList L with
      | none => exact hg
      | some x => rw [hg] at this; cases this
    have HG := Lib.hid hnone
    by_cases hfull : (256 : Int) ≤ L.length
    · have HC := Lib.hid (show cstep L e = (L, false, 11) by unfold cstep; rw [if_neg (by simp [H0.out]), hnone]; simp only; rw [if_pos (by omega)])
      have mc : w5.cell? ⟨g, 0, none⟩ = some (.map (some b)) := M5.out.box.cell 0
      have hlr : (Builtin.len_ #[60] 3 #[.map (some b)]).run Try.prog w5 = .ok (.int .i64 L.length) w5 := len_run M5.out.own _
      clear hnone
      go_wp2_with fail
      refine bodyPost_ret (v := .tuple #[.bool false, .int .i64 11]) (by simp [results, Try.results14, go_sem]) rfl ?_
      rw [HC.out]
      exact ⟨rfl, M5.out, OA.out.mono (fun j hj _ => hj.elim)⟩
    · have HC := Lib.hid (show cstep L e = (cput e L, true, 0) by unfold cstep; rw [if_neg (by simp [H0.out]), hnone]; simp only; rw [if_neg (by omega)])
      have mc : w5.cell? ⟨g, 0, none⟩ = some (.map (some b)) := M5.out.box.cell 0
      have hlr : (Builtin.len_ #[60] 3 #[.map (some b)]).run Try.prog w5 = .ok (.int .i64 L.length) w5 := len_run M5.out.own _
      clear hnone
      go_wp2_with fail
      refine wp_region_N (fun k => k = b) (by kernel_rfl) ?_
      refine wpN_take (i := 0) (d := some 45) rfl rfl (by kernel_rfl) (by kernel_rfl) (by kernel_rfl) (fun _ _ _ h => h) (sure_value (v := .pointer (some ⟨g, 0, none⟩)) (by rfl) (fun v1 h1 => by first | rfl | go_simp)) (Only.refl _ _) ?_
      simp only [Act.put, List.setIfInBounds_toArray, List.set_cons_zero, List.set_cons_succ]
      refine wpN_take (i := 1) (d := some 46) rfl rfl (by kernel_rfl) (by kernel_rfl) (by kernel_rfl) (fun _ _ _ h => h) (sure_value (v := .pointer (some ⟨g, 0, none⟩)) (by rfl) (fun v1 h1 => by first | rfl | go_simp)) (Only.refl _ _) ?_
      simp only [Act.put, List.setIfInBounds_toArray, List.set_cons_zero, List.set_cons_succ]
      refine wpN_take (i := 2) (d := some 47) rfl rfl (by kernel_rfl) (by kernel_rfl) (by kernel_rfl) (fun _ _ _ h => h) (sure_value (v := .pointer (some ⟨g, 0, none⟩)) (by rfl) (fun v1 h1 => by first | rfl | go_simp)) (Only.refl _ _) ?_
      simp only [Act.put, List.setIfInBounds_toArray, List.set_cons_zero, List.set_cons_succ]
      refine wpN_take (i := 3) (d := some 48) rfl rfl (by kernel_rfl) (by kernel_rfl) (by kernel_rfl) (fun _ _ _ h => h) (sure_lit (v := .map (some b)) (i := 0) M5.out.box.drew rfl M5.out.ne (by rfl) (fun _ h => by go_simp)) (Only.refl _ _) ?_
      simp only [Act.put, List.setIfInBounds_toArray, List.set_cons_zero, List.set_cons_succ]
      refine wpN_take (i := 4) (d := some 49) rfl rfl (by kernel_rfl) (by kernel_rfl) (by kernel_rfl) (fun _ _ _ h => h) (sure_value (v := .pointer (some ⟨w.heap.size, 0, none⟩)) (by rfl) (fun v1 h1 => by first | rfl | go_simp)) (Only.refl _ _) ?_
      simp only [Act.put, List.setIfInBounds_toArray, List.set_cons_zero, List.set_cons_succ]
      refine wpN_take (i := 5) (d := some 50) rfl rfl (by kernel_rfl) (by kernel_rfl) (by kernel_rfl) (fun _ _ _ h => h) (sure_lit (v := .string e.key) (i := 0) B5.out.drew rfl NE.out (by rfl) (fun _ h => by go_simp)) (Only.refl _ _) ?_
      simp only [Act.put, List.setIfInBounds_toArray, List.set_cons_zero, List.set_cons_succ]
      refine wpN_take (i := 6) (d := some 51) rfl rfl (by kernel_rfl) (by kernel_rfl) (by kernel_rfl) (fun _ _ _ h => h) (sure_five B5.out.drew NE.out (by rfl) (fun _ h0 h1 h2 h3 h4 => by go_simp)) (Only.refl _ _) ?_
      simp only [Act.put, List.setIfInBounds_toArray, List.set_cons_zero, List.set_cons_succ]
      refine wpN_map (i := 7) (b := b) (L := L) (e := e) (by kernel_rfl) rfl (by rfl) rfl rfl rfl rfl rfl (M5.out.own.only (Only.refl Noth w5).drew (fun h => h)) h1 (by omega) (Only.refl _ _) rfl ?_
      intro w8 hm8 ho8 hS8
      refine wpN_done (by kernel_rfl) (fun w9 ho9 => ?_) _
      have hq := ho8.trans ho9 (F := fun k => k = b) (fun j hj _ => hj.elim)
      have OB := Lib.hid (Only.undrew hq)
      have MB := Lib.hid (hm8.only ho9 (fun h => h))
      have BB := Lib.hid (M5.out.box.only OB.out M5.out.ne)
      clear hm8 ho8 hS8 ho9 hq
      go_wp2
      refine bodyPost_ret (v := .tuple #[.bool true, .int .i64 0]) (by simp [results, Try.results14, go_sem]) rfl ?_
      rw [HC.out]
      refine ⟨rfl, ⟨BB.out, MB.out, cput_srt M5.out.srt, cput_ok M5.out.ok H0.out, ?_⟩, (OA.out.mono (G := fun k => k = b) (fun j hj _ => hj.elim)).trans OB.out (fun j hj _ => hj)⟩
      rw [cput_len M5.out.srt, HG.out]
      simp
      omega
  · obtain ⟨x, hx⟩ : ∃ x, cget e.kb L = some x := by
      have := HIS.out
      cases hg : cget e.key.data.toList L with
      | none => rw [hg] at this; cases this
      | some x => exact ⟨x, hg⟩
    have hox : old = x := by
      rw [← HOLD.out]
      unfold look
      have hx : cget e.key.data.toList L = some x := hx
      rw [hx]
      rfl
    subst hox
    have HG := Lib.hid hx
    go_wp2_with fail
    refine (entry_above e old _).mono ?_
    rintro r w6 ⟨rfl, ho⟩
    have M6 := Lib.hid (M5.out.noth ho)
    have B6 := Lib.hid (B5.out.only ho (fun h => h))
    have OA6 := Lib.hid (OA.out.tr ho)
    clear ho p0 p1 p2 p3 p4 b0 b1 b2 b3 b4
    cases ha : e.above old
    · have HC := Lib.hid (show cstep L e = (L, false, 0) by unfold cstep; rw [if_neg (by simp [H0.out]), hx]; simp [ha])
      clear hx
      go_wp2
      refine bodyPost_ret (v := .tuple #[.bool false, .int .i64 0]) (by simp [results, Try.results14, go_sem]) rfl ?_
      rw [HC.out]
      exact ⟨rfl, M6.out, OA6.out.mono (fun j hj _ => hj.elim)⟩
    · have HC := Lib.hid (show cstep L e = (cput e L, true, 0) by unfold cstep; rw [if_neg (by simp [H0.out]), hx]; simp [ha])
      clear hx
      go_wp2_with fail
      refine wp_region_N (fun k => k = b) (by kernel_rfl) ?_
      refine wpN_take (i := 0) (d := some 45) rfl rfl (by kernel_rfl) (by kernel_rfl) (by kernel_rfl) (fun _ _ _ h => h) (sure_value (v := .pointer (some ⟨g, 0, none⟩)) (by rfl) (fun v1 h1 => by first | rfl | go_simp)) (Only.refl _ _) ?_
      simp only [Act.put, List.setIfInBounds_toArray, List.set_cons_zero, List.set_cons_succ]
      refine wpN_take (i := 1) (d := some 46) rfl rfl (by kernel_rfl) (by kernel_rfl) (by kernel_rfl) (fun _ _ _ h => h) (sure_value (v := .pointer (some ⟨g, 0, none⟩)) (by rfl) (fun v1 h1 => by first | rfl | go_simp)) (Only.refl _ _) ?_
      simp only [Act.put, List.setIfInBounds_toArray, List.set_cons_zero, List.set_cons_succ]
      refine wpN_take (i := 2) (d := some 47) rfl rfl (by kernel_rfl) (by kernel_rfl) (by kernel_rfl) (fun _ _ _ h => h) (sure_value (v := .pointer (some ⟨g, 0, none⟩)) (by rfl) (fun v1 h1 => by first | rfl | go_simp)) (Only.refl _ _) ?_
      simp only [Act.put, List.setIfInBounds_toArray, List.set_cons_zero, List.set_cons_succ]
      refine wpN_take (i := 3) (d := some 48) rfl rfl (by kernel_rfl) (by kernel_rfl) (by kernel_rfl) (fun _ _ _ h => h) (sure_lit (v := .map (some b)) (i := 0) M6.out.box.drew rfl M6.out.ne (by rfl) (fun _ h => by go_simp)) (Only.refl _ _) ?_
      simp only [Act.put, List.setIfInBounds_toArray, List.set_cons_zero, List.set_cons_succ]
      refine wpN_take (i := 4) (d := some 49) rfl rfl (by kernel_rfl) (by kernel_rfl) (by kernel_rfl) (fun _ _ _ h => h) (sure_value (v := .pointer (some ⟨w.heap.size, 0, none⟩)) (by rfl) (fun v1 h1 => by first | rfl | go_simp)) (Only.refl _ _) ?_
      simp only [Act.put, List.setIfInBounds_toArray, List.set_cons_zero, List.set_cons_succ]
      refine wpN_take (i := 5) (d := some 50) rfl rfl (by kernel_rfl) (by kernel_rfl) (by kernel_rfl) (fun _ _ _ h => h) (sure_lit (v := .string e.key) (i := 0) B6.out.drew rfl NE.out (by rfl) (fun _ h => by go_simp)) (Only.refl _ _) ?_
      simp only [Act.put, List.setIfInBounds_toArray, List.set_cons_zero, List.set_cons_succ]
      refine wpN_take (i := 6) (d := some 51) rfl rfl (by kernel_rfl) (by kernel_rfl) (by kernel_rfl) (fun _ _ _ h => h) (sure_five B6.out.drew NE.out (by rfl) (fun _ h0 h1 h2 h3 h4 => by go_simp)) (Only.refl _ _) ?_
      simp only [Act.put, List.setIfInBounds_toArray, List.set_cons_zero, List.set_cons_succ]
      refine wpN_map (i := 7) (b := b) (L := L) (e := e) (by kernel_rfl) rfl (by rfl) rfl rfl rfl rfl rfl (M6.out.own.only (Only.refl Noth w6).drew (fun h => h)) h1 (by omega) (Only.refl _ _) rfl ?_
      intro w8 hm8 ho8 hS8
      refine wpN_done (by kernel_rfl) (fun w9 ho9 => ?_) _
      have hq := ho8.trans ho9 (F := fun k => k = b) (fun j hj _ => hj.elim)
      have OB := Lib.hid (Only.undrew hq)
      have MB := Lib.hid (hm8.only ho9 (fun h => h))
      have BB := Lib.hid (M6.out.box.only OB.out M6.out.ne)
      clear hm8 ho8 hS8 ho9 hq
      go_wp2
      refine bodyPost_ret (v := .tuple #[.bool true, .int .i64 0]) (by simp [results, Try.results14, go_sem]) rfl ?_
      rw [HC.out]
      refine ⟨rfl, ⟨BB.out, MB.out, cput_srt M6.out.srt, cput_ok M6.out.ok H0.out, ?_⟩, (OA6.out.mono (G := fun k => k = b) (fun j hj _ => hj.elim)).trans OB.out (fun j hj _ => hj)⟩
      rw [cput_len M6.out.srt, HG.out]
      simp
      omega
end Go.Proofs.Ytdclkbhkboaafaa
