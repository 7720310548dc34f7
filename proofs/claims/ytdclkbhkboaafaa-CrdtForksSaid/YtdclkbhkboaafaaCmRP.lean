/- The reference's map: Put. -/
import Derived.Test.YtdclkbhkboaafaaCmN
namespace Go.Proofs.Ytdclkbhkboaafaa
open Go.RowKit Go.Lib Go.Sort
set_option linter.unusedVariables false
set_option linter.unusedSimpArgs false
set_option maxRecDepth 100000
attribute [local go_sem ↓] Go.wp_at_zero Go.wp_at_succ

theorem ents_to {w : World} {A : Option Addr} {c : Nat} {l : List Ent} (k : Nat) (h : Ents w (.slice A l.length c) l) (hk : k ≤ l.length) :
    ∃ A', (∀ V : World, (Instr.slice 22 (.slice A l.length c) none (some (.int .i64 k)) none).run Try.prog V = .ok (.slice A' (l.take k).length c) V) ∧ Ents w (.slice A' (l.take k).length c) (l.take k) := by
  obtain ⟨A', c', q0, hel, h1, h2⟩ := h
  injection q0 with q1 _ q3
  subst q1 q3
  have hl : (l.take k).length = k := by rw [List.length_take]; omega
  refine ⟨if c = 0 then A else A.map (·.add 0), fun V => ?_, _, c, rfl, fun hp => ?_, by omega, h2⟩
  · have hz := Try.sizeOf34 V
    have hr := run_slice_h (P := Try.prog) V 22 A l.length c (by kernel_rfl) .i64 (k : Int) (by omega) (by omega)
    rw [show Try.prog.elem 22 = 34 by kernel_rfl, hz] at hr
    rw [hr, hl]
    simp [Result.andThen, sliced]
  · rw [List.length_map] at hp
    obtain ⟨b, o, hA, hS, hb, hc⟩ := hel (by rw [List.length_map]; omega)
    subst hA
    rw [if_neg (by omega)]
    refine ⟨b, o, by simp [add_plain'], hS, hb, fun j cs hj => hc j cs ?_⟩
    rw [List.getElem?_map] at hj ⊢
    rw [List.getElem?_take] at hj
    split at hj
    · exact hj
    · cases hj
theorem ents_from {w : World} {A : Option Addr} {c : Nat} {l : List Ent} (k : Nat) (h : Ents w (.slice A l.length c) l) (hk : k ≤ l.length) :
    ∃ A' c', (∀ V : World, (Instr.slice 22 (.slice A l.length c) (some (.int .i64 k)) none none).run Try.prog V = .ok (.slice A' (l.drop k).length c') V) ∧ Ents w (.slice A' (l.drop k).length c') (l.drop k) := by
  obtain ⟨A', c', q0, hel, h1, h2⟩ := h
  injection q0 with q1 _ q3
  subst q1 q3
  have hl : (l.drop k).length = l.length - k := List.length_drop
  refine ⟨if c = k then A else A.map (·.add (k * 5)), c - k, fun V => ?_, _, c - k, rfl, fun hp => ?_, by omega, by omega⟩
  · have hz := Try.sizeOf34 V
    have hr := run_slice_l (P := Try.prog) V 22 A l.length c (by kernel_rfl) .i64 (k : Int) (by omega) (by omega)
    rw [show Try.prog.elem 22 = 34 by kernel_rfl, hz] at hr
    rw [hr, hl]
    simp [Result.andThen, sliced]
  · rw [List.length_map, hl] at hp
    obtain ⟨b, o, hA, hS, hb, hc⟩ := hel (by rw [List.length_map]; omega)
    subst hA
    rw [if_neg (by omega)]
    refine ⟨b, o + k * 5, by simp [add_plain'], hS, hb, fun j cs hj i v hv => ?_⟩
    rw [List.getElem?_map, List.getElem?_drop] at hj
    have := hc (k + j) cs (by rw [List.getElem?_map]; exact hj) i v hv
    rw [show o + k * 5 + j * 5 + i = o + (k + j) * 5 + i by omega]
    exact this
theorem ents_one {w : World} {p : Nat} {e : Ent} (h : Hld w p 34 e.arr) : Ents w (.slice (some ⟨p, 0, none⟩) [e].length 1) [e] :=
  ⟨_, 1, rfl, fun _ => ⟨p, 0, rfl, h.lt, h.lt, fun k cs hk j v hv => by
    cases k with
    | succ k => cases hk
    | zero =>
      injection hk with hk
      subst hk
      rw [show 0 + 0 * 5 + j = j by omega, h.cell]
      simpa using hv⟩, Nat.le_refl _, by omega⟩
section
variable {P : Program} {ops : Array Oper} {o : Oper} {a : Act} {w0 : World} {F : Nat → Prop}
/-- A slice expression whose answer is known. -/
theorem sure_slice {t : TypeId} {x : Operand} {lo hi : Option Operand} {X v : Value} {LO HI : Option Value} (hr : ∀ V : World, (Instr.slice t X LO HI none).run P V = .ok v V) (ht : P.underlying t = some (.slice (P.elem t))) (hw : Region.wanted o (yielded ops a.tmps) = true) (ho : o.op = .slice t x lo hi none)
    (hx : a.eval x = X) (hlo : lo.map a.eval = LO) (hhi : hi.map a.eval = HI) : Sure P ops (Only Noth) (Only F w0) o v a := by
  refine sure_value hw (fun w1 _ => ?_)
  subst hx hlo hhi
  unfold execOp
  simp only [ho, Option.map_none, run_sliceAt_slice _ _ _ _ _ _ ht, Sem.run_bind, hr w1, Result.andThen_ok, Sem.run_pure]
theorem app_op {t : TypeId} {s x : Operand} {S X v : Value} {w1 w2 : World} (ho : o.op = .call { callee := .builtin .append, args := #[s, x], argTypes := #[t, t] }) (hs : a.eval s = S) (hx : a.eval x = X) (hr : (Builtin.append_ #[t, t] o.type #[S, X]).run P w1 = .ok v w2) : (execOp a.eval o).run P w1 = .ok (.value v) w2 := by
  subst hs hx
  unfold execOp
  simp only [ho, resolve, invoke, builtin, Sem.run_bind, Sem.run_pure, Result.andThen_ok, List.map_toArray, List.map_cons, List.map_nil, hr]
end
theorem Ents.old {w w1 w2 : World} {A : Option Addr} {c g : Nat} {l : List Ent} (h0 : Ents w (.slice A l.length c) l) (h : Ents w1 (.slice A l.length c) l) (ho : Only (fun k => k = g) w1 w2) (hg : w.heap.size ≤ g) : Ents w2 (.slice A l.length c) l :=
  h.only ho (fun A1 c1 hv hp b o hA hj => by
    obtain ⟨A', c', q0, hel, _⟩ := h0
    injection q0 with q1 _ _
    injection hv with v1 _ _
    obtain ⟨b', o', hA', hS, _⟩ := hel (by rw [List.length_map]; exact hp)
    rw [← q1, v1, hA] at hA'
    injection hA' with hA'
    injection hA' with hA'
    have hj : b = g := hj
    have hS : b' < w.heap.size := hS
    omega)
/-- A row of entries of one's own. -/
def RowV (wb : World) (l : List Ent) (v : Value) (w : World) : Prop := ∃ B d, v = .slice B l.length d ∧ ERow wb w B d l
def OneV (wb : World) (e : Ent) (v : Value) (w : World) : Prop := ∃ p, wb.heap.size ≤ p ∧ v = .slice (some ⟨p, 0, none⟩) [e].length 1 ∧ Ents w (.slice (some ⟨p, 0, none⟩) [e].length 1) [e]
theorem RowV.noth {wb w w' : World} {l : List Ent} {v : Value} (h : RowV wb l v w) (ho : Only Noth w w') : RowV wb l v w' := by obtain ⟨B, d, h1, h2⟩ := h; exact ⟨B, d, h1, h2.noth ho⟩
theorem OneV.noth {wb w w' : World} {e : Ent} {v : Value} (h : OneV wb e v w) (ho : Only Noth w w') : OneV wb e v w' := by obtain ⟨p, h0, h1, h2⟩ := h; exact ⟨p, h0, h1, h2.noth ho⟩
theorem ERow.up {w0 wb w : World} {A : Option Addr} {c : Nat} {l : List Ent} (h : ERow wb w A c l) (ho : w0.heap.size ≤ wb.heap.size) : ERow w0 w A c l := Row.mono h (fun k hk _ => Nat.le_trans ho hk)
/-- What Put of the reference hands back. -/
def RPutAns (s : List Ent × Bool × Int) (e : Ending) (w : World) : Prop := ∃ B d M, M = s.1 ∧ e = .returned (.tuple #[.agg #[.slice B M.length d], .bool s.2.1, .int .i64 s.2.2]) ∧ Ents w (.slice B M.length d) M
set_option maxHeartbeats 16000000 in
theorem rm_put (A : Option Addr) (c : Nat) (L : List Ent) (e : Ent) (h1 : e.key.size ≤ 9223372036854775807) (h2 : e.val.size ≤ 9223372036854775807) (hs : Srt L) (hl : L.length ≤ 256) (w : World) (h : Ents w (.slice A L.length c) L) :
    Calls Try.prog 15 #[.agg #[.slice A L.length c], .agg e.arr] w fun r w' => RPutAns (cstep L e) r w' ∧ Only Noth w w' := by
  have B1 := Lib.hid (((Hld.new w 28 #[.slice A L.length c]).alloc (.cells e.arr 34)).alloc (.cells #[.slice none 0 0] 28))
  have B2 := Lib.hid (show Hld (((w.alloc (.cells #[.slice A L.length c] 28)).alloc (.cells e.arr 34)).alloc (.cells #[.slice none 0 0] 28)) (w.heap.size + 1) 34 e.arr by have := (Hld.new (w.alloc (.cells #[.slice A L.length c] 28)) 34 e.arr).alloc (.cells #[.slice none 0 0] 28); simpa using this)
  have B3 := Lib.hid (show Hld (((w.alloc (.cells #[.slice A L.length c] 28)).alloc (.cells e.arr 34)).alloc (.cells #[.slice none 0 0] 28)) (w.heap.size + 1 + 1) 28 #[.slice none 0 0] by have := Hld.new ((w.alloc (.cells #[.slice A L.length c] 28)).alloc (.cells e.arr 34)) 28 #[.slice none 0 0]; simpa using this)
  have O0 := Lib.hid ((((Only.refl Noth w).alloc (.cells #[.slice A L.length c] 28)).alloc (.cells e.arr 34)).alloc (.cells #[.slice none 0 0] 28))
  have E0 := Lib.hid (h.noth O0.out)
  have HS := Lib.hid hs
  have hl0 : (0 : Int) ≤ L.length := by omega
  have HE := Lib.hid h
  clear h hs
  go_enter Try.func15, Try.ntmps15
  go_wp2_with fail
  refine (ref_check e h1 h2 _).mono ?_
  rintro r w1 ⟨rfl, ho⟩
  replace B1 := Lib.hid (B1.out.only ho (fun h => h))
  replace B2 := Lib.hid (B2.out.only ho (fun h => h))
  replace B3 := Lib.hid (B3.out.only ho (fun h => h))
  replace E0 := Lib.hid (E0.out.noth ho)
  replace O0 := Lib.hid (O0.out.tr ho)
  clear ho
  by_cases hc : e.check ≠ 0
  · have hc' : (e.check != 0) = true := by simpa using hc
    have HC := Lib.hid (cstep_bad (L := L) hc)
    have m0 : _ = some (Value.slice A L.length c) := B1.out.cell 0
    go_wp2_with (refine wpList_store_whole rfl rfl 28 (.tmp 4) (.tmp 16) rfl (w.heap.size + 1 + 1) rfl #[.slice A L.length c] rfl 28 _ B3.out rfl (by simp [Value.oneCell']) (by kernel_rfl) ?_; intro w9 hb9 ho9 _; have y0 := hb9.cell 0; have E9 := Lib.hid (HE.out.old E0.out ho9 (by omega)); have O9 := Lib.hid (O0.out.trans ho9 (fun j hj hl => by have hj : j = w.heap.size + 1 + 1 := hj; omega)); clear hb9 ho9)
    refine bodyPost_ret (v := .tuple #[.agg #[.slice A L.length c], .bool (cstep L e).2.1, .int .i64 (cstep L e).2.2]) (by rw [HC.out]; simp [results, Try.results15, go_sem, *]) rfl ?_
    rw [HC.out]
    exact ⟨⟨A, c, L, rfl, rfl, E9.out⟩, O9.out⟩
  have hc : e.check = 0 := Decidable.not_not.1 hc
  have H0 := Lib.hid hc
  rw [hc]
  clear hc
  go_wp2_with fail
  have BX := Lib.hid B3.out
  have OX := Lib.hid O0.out
  have z1 := B3.out.lt
  go_loopw [8] (fun i W => ∃ k : Nat, k ≤ L.length ∧ i = .int .i64 (k : Int) ∧ (∀ x ∈ L.take k, bytesBefore x.kb e.kb = true) ∧ Only Noth w1 W) (fun i _ => L.length - (RowKit.intOf i).toNat)
  case atStart => exact ⟨0, Nat.zero_le _, rfl, by simp, Only.refl _ _⟩
  case round =>
    obtain ⟨k, hk, rfl, hb, ho⟩ := hrel
    replace B1 := Lib.hid (B1.out.only ho (fun h => h))
    replace B2 := Lib.hid (B2.out.only ho (fun h => h))
    replace B3 := Lib.hid (B3.out.only ho (fun h => h))
    replace E0 := Lib.hid (E0.out.noth ho)
    replace O0 := Lib.hid (O0.out.tr ho)
    have ON := Lib.hid ho
    have HB := Lib.hid hb
    have hk0 : (0 : Int) ≤ k := by omega
    clear ho hb
    by_cases hlt : k < L.length
    · obtain ⟨x, hx⟩ : ∃ x, L[k]? = some x := ⟨_, List.getElem?_eq_getElem hlt⟩
      have HX := Lib.hid hx
      obtain ⟨xb, xo, hA, hcx⟩ := E0.out.at hx
      subst hA
      have CX := Lib.hid hcx
      have hk1 : (k : Int) < L.length := by omega
      clear hx hcx
      obtain ⟨lt, hltv⟩ : ∃ lt, bytesBefore x.kb e.kb = lt := ⟨_, rfl⟩
      have HL := Lib.hid hltv
      clear hltv
      go_wp2_with fail
      refine wp_region_N Noth (by kernel_rfl) ?_
      refine wpN_take (i := 0) (d := some 18) rfl rfl (by kernel_rfl) (by kernel_rfl) (by kernel_rfl) (fun _ _ _ h => h) (sure_value (v := .int .i64 (k : Int)) (by rfl) (fun v1 h1 => by first | rfl | (go_simp; done) | (go_simp; intro h9; exact absurd h9 (by omega)) | (go_simp; assumption))) (Only.refl _ _) ?_
      simp only [Act.put, List.setIfInBounds_toArray, List.set_cons_zero, List.set_cons_succ]
      refine wpN_take (i := 1) (d := some 19) rfl rfl (by kernel_rfl) (by kernel_rfl) (by kernel_rfl) (fun _ _ _ h => h) (sure_value (v := .pointer (some ⟨w.heap.size, 0, none⟩)) (by rfl) (fun v1 h1 => by first | rfl | (go_simp; done) | (go_simp; intro h9; exact absurd h9 (by omega)) | (go_simp; assumption))) (Only.refl _ _) ?_
      simp only [Act.put, List.setIfInBounds_toArray, List.set_cons_zero, List.set_cons_succ]
      refine wpN_take (i := 2) (d := some 20) rfl rfl (by kernel_rfl) (by kernel_rfl) (by kernel_rfl) (fun _ _ _ h => h) (sure_lit (v := .slice (some ⟨xb, xo, none⟩) L.length c) (i := 0) B1.out.drew rfl (fun h => h) (by rfl) (fun _ h => by go_simp)) (Only.refl _ _) ?_
      simp only [Act.put, List.setIfInBounds_toArray, List.set_cons_zero, List.set_cons_succ]
      refine wpN_take (i := 3) (d := some 21) rfl rfl (by kernel_rfl) (by kernel_rfl) (by kernel_rfl) (fun _ _ _ h => h) (sure_value (v := .int .i64 L.length) (by rfl) (fun v1 h1 => by first | rfl | (go_simp; done) | (go_simp; intro h9; exact absurd h9 (by omega)) | (go_simp; assumption))) (Only.refl _ _) ?_
      simp only [Act.put, List.setIfInBounds_toArray, List.set_cons_zero, List.set_cons_succ]
      refine wpN_take (i := 4) (d := some 22) rfl rfl (by kernel_rfl) (by kernel_rfl) (by kernel_rfl) (fun _ _ _ h => h) (sure_value (v := .bool true) (by rfl) (fun v1 h1 => by first | rfl | (go_simp; done) | (go_simp; intro h9; exact absurd h9 (by omega)) | (go_simp; assumption))) (Only.refl _ _) ?_
      simp only [Act.put, List.setIfInBounds_toArray, List.set_cons_zero, List.set_cons_succ]
      refine wpN_take (i := 5) (d := some 23) rfl rfl (by kernel_rfl) (by kernel_rfl) (by kernel_rfl) (fun _ _ _ h => h) (sure_value (v := .bool true) (by rfl) (fun v1 h1 => by first | rfl | (go_simp; done) | (go_simp; intro h9; exact absurd h9 (by omega)) | (go_simp; assumption))) (Only.refl _ _) ?_
      simp only [Act.put, List.setIfInBounds_toArray, List.set_cons_zero, List.set_cons_succ]
      refine wpN_take (i := 6) (d := some 24) rfl rfl (by kernel_rfl) (by kernel_rfl) (by kernel_rfl) (fun _ _ _ h => h) (sure_value (v := .pointer (some ⟨w.heap.size, 0, none⟩)) (by rfl) (fun v1 h1 => by first | rfl | (go_simp; done) | (go_simp; intro h9; exact absurd h9 (by omega)) | (go_simp; assumption))) (Only.refl _ _) ?_
      simp only [Act.put, List.setIfInBounds_toArray, List.set_cons_zero, List.set_cons_succ]
      refine wpN_take (i := 7) (d := some 25) rfl rfl (by kernel_rfl) (by kernel_rfl) (by kernel_rfl) (fun _ _ _ h => h) (sure_lit (v := .slice (some ⟨xb, xo, none⟩) L.length c) (i := 0) B1.out.drew rfl (fun h => h) (by rfl) (fun _ h => by go_simp)) (Only.refl _ _) ?_
      simp only [Act.put, List.setIfInBounds_toArray, List.set_cons_zero, List.set_cons_succ]
      refine wpN_take (i := 8) (d := some 26) rfl rfl (by kernel_rfl) (by kernel_rfl) (by kernel_rfl) (fun _ _ _ h => h) (sure_value (v := .int .i64 (k : Int)) (by rfl) (fun v1 h1 => by first | rfl | (go_simp; done) | (go_simp; intro h9; exact absurd h9 (by omega)) | (go_simp; assumption))) (Only.refl _ _) ?_
      simp only [Act.put, List.setIfInBounds_toArray, List.set_cons_zero, List.set_cons_succ]
      refine wpN_take (i := 9) (d := some 27) rfl rfl (by kernel_rfl) (by kernel_rfl) (by kernel_rfl) (fun _ _ _ h => h) (sure_value (v := .pointer (some ⟨xb, xo + k * 5, none⟩)) (by rfl) (fun v1 h1 => by first | rfl | (go_simp; done) | (go_simp; intro h9; exact absurd h9 (by omega)) | (go_simp; assumption))) (Only.refl _ _) ?_
      simp only [Act.put, List.setIfInBounds_toArray, List.set_cons_zero, List.set_cons_succ]
      refine wpN_take (i := 10) (d := some 28) rfl rfl (by kernel_rfl) (by kernel_rfl) (by kernel_rfl) (fun _ _ _ h => h) (sure_value (v := .pointer (some ⟨xb, xo + k * 5, none⟩)) (by rfl) (fun v1 h1 => by first | rfl | (go_simp; done) | (go_simp; intro h9; exact absurd h9 (by omega)) | (go_simp; assumption))) (Only.refl _ _) ?_
      simp only [Act.put, List.setIfInBounds_toArray, List.set_cons_zero, List.set_cons_succ]
      refine wpN_take (i := 11) (d := some 29) rfl rfl (by kernel_rfl) (by kernel_rfl) (by kernel_rfl) (fun _ _ _ h => h) (sure_key CX.out.drew (fun h => h) (by rfl) rfl rfl) (Only.refl _ _) ?_
      simp only [Act.put, List.setIfInBounds_toArray, List.set_cons_zero, List.set_cons_succ]
      refine wpN_take (i := 12) (d := some 30) rfl rfl (by kernel_rfl) (by kernel_rfl) (by kernel_rfl) (fun _ _ _ h => h) (sure_value (v := .pointer (some ⟨w.heap.size + 1, 0, none⟩)) (by rfl) (fun v1 h1 => by first | rfl | (go_simp; done) | (go_simp; intro h9; exact absurd h9 (by omega)) | (go_simp; assumption))) (Only.refl _ _) ?_
      simp only [Act.put, List.setIfInBounds_toArray, List.set_cons_zero, List.set_cons_succ]
      refine wpN_take (i := 13) (d := some 31) rfl rfl (by kernel_rfl) (by kernel_rfl) (by kernel_rfl) (fun _ _ _ h => h) (sure_lit (v := .string e.key) (i := 0) B2.out.drew rfl (fun h => h) (by rfl) (fun _ h => by go_simp)) (Only.refl _ _) ?_
      simp only [Act.put, List.setIfInBounds_toArray, List.set_cons_zero, List.set_cons_succ]
      refine wpN_take (i := 14) (d := some 32) rfl rfl (by kernel_rfl) (by kernel_rfl) (by kernel_rfl) (fun _ _ _ h => h) (sure_lss HL.out (by rfl) rfl rfl rfl) (Only.refl _ _) ?_
      simp only [Act.put, List.setIfInBounds_toArray, List.set_cons_zero, List.set_cons_succ]
      refine wpN_take (i := 15) (d := some 33) rfl rfl (by kernel_rfl) (by kernel_rfl) (by kernel_rfl) (fun _ _ _ h => h) (sure_value (v := .bool lt) (by rfl) (fun v1 h1 => by first | rfl | (go_simp; done) | (go_simp; intro h9; exact absurd h9 (by omega)) | (go_simp; assumption))) (Only.refl _ _) ?_
      simp only [Act.put, List.setIfInBounds_toArray, List.set_cons_zero, List.set_cons_succ]
      refine wpN_done (by kernel_rfl) (fun w7 ho => ?_) _
      have O7 := Lib.hid (ON.out.tr (Only.undrew ho))
      replace B1 := Lib.hid (B1.out.only (Only.undrew ho) (fun h => h))
      replace B2 := Lib.hid (B2.out.only (Only.undrew ho) (fun h => h))
      replace B3 := Lib.hid (B3.out.only (Only.undrew ho) (fun h => h))
      replace E0 := Lib.hid (E0.out.noth (Only.undrew ho))
      replace O0 := Lib.hid (O0.out.tr (Only.undrew ho))
      replace CX := Lib.hid (CX.out.noth (Only.undrew ho))
      clear ho ON
      cases lt
      · go_wp2_with fail
        go_wp2_with fail
        obtain ⟨is, his⟩ : ∃ is, (x.key.data.toList == e.key.data.toList) = is := ⟨_, rfl⟩
        have HI := Lib.hid his
        clear his
        have ON := Lib.hid O7.out
        clear O7
        refine wp_region_N Noth (by kernel_rfl) ?_
        refine wpN_take (i := 0) (d := some 36) rfl rfl (by kernel_rfl) (by kernel_rfl) (by kernel_rfl) (fun _ _ _ h => h) (sure_value (v := .int .i64 (k : Int)) (by rfl) (fun v1 h1 => by first | rfl | (go_simp; done) | (go_simp; intro h9; exact absurd h9 (by omega)) | (go_simp; assumption))) (Only.refl _ _) ?_
        simp only [Act.put, List.setIfInBounds_toArray, List.set_cons_zero, List.set_cons_succ]
        refine wpN_take (i := 1) (d := some 37) rfl rfl (by kernel_rfl) (by kernel_rfl) (by kernel_rfl) (fun _ _ _ h => h) (sure_value (v := .pointer (some ⟨w.heap.size, 0, none⟩)) (by rfl) (fun v1 h1 => by first | rfl | (go_simp; done) | (go_simp; intro h9; exact absurd h9 (by omega)) | (go_simp; assumption))) (Only.refl _ _) ?_
        simp only [Act.put, List.setIfInBounds_toArray, List.set_cons_zero, List.set_cons_succ]
        refine wpN_take (i := 2) (d := some 38) rfl rfl (by kernel_rfl) (by kernel_rfl) (by kernel_rfl) (fun _ _ _ h => h) (sure_lit (v := .slice (some ⟨xb, xo, none⟩) L.length c) (i := 0) B1.out.drew rfl (fun h => h) (by rfl) (fun _ h => by go_simp)) (Only.refl _ _) ?_
        simp only [Act.put, List.setIfInBounds_toArray, List.set_cons_zero, List.set_cons_succ]
        refine wpN_take (i := 3) (d := some 39) rfl rfl (by kernel_rfl) (by kernel_rfl) (by kernel_rfl) (fun _ _ _ h => h) (sure_value (v := .int .i64 L.length) (by rfl) (fun v1 h1 => by first | rfl | (go_simp; done) | (go_simp; intro h9; exact absurd h9 (by omega)) | (go_simp; assumption))) (Only.refl _ _) ?_
        simp only [Act.put, List.setIfInBounds_toArray, List.set_cons_zero, List.set_cons_succ]
        refine wpN_take (i := 4) (d := some 40) rfl rfl (by kernel_rfl) (by kernel_rfl) (by kernel_rfl) (fun _ _ _ h => h) (sure_value (v := .bool true) (by rfl) (fun v1 h1 => by first | rfl | (go_simp; done) | (go_simp; intro h9; exact absurd h9 (by omega)) | (go_simp; assumption))) (Only.refl _ _) ?_
        simp only [Act.put, List.setIfInBounds_toArray, List.set_cons_zero, List.set_cons_succ]
        refine wpN_take (i := 5) (d := some 41) rfl rfl (by kernel_rfl) (by kernel_rfl) (by kernel_rfl) (fun _ _ _ h => h) (sure_value (v := .bool true) (by rfl) (fun v1 h1 => by first | rfl | (go_simp; done) | (go_simp; intro h9; exact absurd h9 (by omega)) | (go_simp; assumption))) (Only.refl _ _) ?_
        simp only [Act.put, List.setIfInBounds_toArray, List.set_cons_zero, List.set_cons_succ]
        refine wpN_take (i := 6) (d := some 42) rfl rfl (by kernel_rfl) (by kernel_rfl) (by kernel_rfl) (fun _ _ _ h => h) (sure_value (v := .pointer (some ⟨w.heap.size, 0, none⟩)) (by rfl) (fun v1 h1 => by first | rfl | (go_simp; done) | (go_simp; intro h9; exact absurd h9 (by omega)) | (go_simp; assumption))) (Only.refl _ _) ?_
        simp only [Act.put, List.setIfInBounds_toArray, List.set_cons_zero, List.set_cons_succ]
        refine wpN_take (i := 7) (d := some 43) rfl rfl (by kernel_rfl) (by kernel_rfl) (by kernel_rfl) (fun _ _ _ h => h) (sure_lit (v := .slice (some ⟨xb, xo, none⟩) L.length c) (i := 0) B1.out.drew rfl (fun h => h) (by rfl) (fun _ h => by go_simp)) (Only.refl _ _) ?_
        simp only [Act.put, List.setIfInBounds_toArray, List.set_cons_zero, List.set_cons_succ]
        refine wpN_take (i := 8) (d := some 44) rfl rfl (by kernel_rfl) (by kernel_rfl) (by kernel_rfl) (fun _ _ _ h => h) (sure_value (v := .int .i64 (k : Int)) (by rfl) (fun v1 h1 => by first | rfl | (go_simp; done) | (go_simp; intro h9; exact absurd h9 (by omega)) | (go_simp; assumption))) (Only.refl _ _) ?_
        simp only [Act.put, List.setIfInBounds_toArray, List.set_cons_zero, List.set_cons_succ]
        refine wpN_take (i := 9) (d := some 45) rfl rfl (by kernel_rfl) (by kernel_rfl) (by kernel_rfl) (fun _ _ _ h => h) (sure_value (v := .pointer (some ⟨xb, xo + k * 5, none⟩)) (by rfl) (fun v1 h1 => by first | rfl | (go_simp; done) | (go_simp; intro h9; exact absurd h9 (by omega)) | (go_simp; assumption))) (Only.refl _ _) ?_
        simp only [Act.put, List.setIfInBounds_toArray, List.set_cons_zero, List.set_cons_succ]
        refine wpN_take (i := 10) (d := some 46) rfl rfl (by kernel_rfl) (by kernel_rfl) (by kernel_rfl) (fun _ _ _ h => h) (sure_value (v := .pointer (some ⟨xb, xo + k * 5, none⟩)) (by rfl) (fun v1 h1 => by first | rfl | (go_simp; done) | (go_simp; intro h9; exact absurd h9 (by omega)) | (go_simp; assumption))) (Only.refl _ _) ?_
        simp only [Act.put, List.setIfInBounds_toArray, List.set_cons_zero, List.set_cons_succ]
        refine wpN_take (i := 11) (d := some 47) rfl rfl (by kernel_rfl) (by kernel_rfl) (by kernel_rfl) (fun _ _ _ h => h) (sure_key CX.out.drew (fun h => h) (by rfl) rfl rfl) (Only.refl _ _) ?_
        simp only [Act.put, List.setIfInBounds_toArray, List.set_cons_zero, List.set_cons_succ]
        refine wpN_take (i := 12) (d := some 48) rfl rfl (by kernel_rfl) (by kernel_rfl) (by kernel_rfl) (fun _ _ _ h => h) (sure_value (v := .pointer (some ⟨w.heap.size + 1, 0, none⟩)) (by rfl) (fun v1 h1 => by first | rfl | (go_simp; done) | (go_simp; intro h9; exact absurd h9 (by omega)) | (go_simp; assumption))) (Only.refl _ _) ?_
        simp only [Act.put, List.setIfInBounds_toArray, List.set_cons_zero, List.set_cons_succ]
        refine wpN_take (i := 13) (d := some 49) rfl rfl (by kernel_rfl) (by kernel_rfl) (by kernel_rfl) (fun _ _ _ h => h) (sure_lit (v := .string e.key) (i := 0) B2.out.drew rfl (fun h => h) (by rfl) (fun _ h => by go_simp)) (Only.refl _ _) ?_
        simp only [Act.put, List.setIfInBounds_toArray, List.set_cons_zero, List.set_cons_succ]
        refine wpN_take (i := 14) (d := some 50) rfl rfl (by kernel_rfl) (by kernel_rfl) (by kernel_rfl) (fun _ _ _ h => h) (sure_keq HI.out (by rfl) rfl rfl rfl) (Only.refl _ _) ?_
        simp only [Act.put, List.setIfInBounds_toArray, List.set_cons_zero, List.set_cons_succ]
        refine wpN_take (i := 15) (d := some 51) rfl rfl (by kernel_rfl) (by kernel_rfl) (by kernel_rfl) (fun _ _ _ h => h) (sure_value (v := .bool is) (by rfl) (fun v1 h1 => by first | rfl | (go_simp; done) | (go_simp; intro h9; exact absurd h9 (by omega)) | (go_simp; assumption))) (Only.refl _ _) ?_
        simp only [Act.put, List.setIfInBounds_toArray, List.set_cons_zero, List.set_cons_succ]
        refine wpN_take (i := 16) (d := some 9) rfl rfl (by kernel_rfl) (by kernel_rfl) (by kernel_rfl) (fun _ _ _ h => h) (sure_value (v := .bool is) (by rfl) (fun v1 h1 => by first | rfl | (go_simp; done) | (go_simp; intro h9; exact absurd h9 (by omega)) | (go_simp; assumption))) (Only.refl _ _) ?_
        simp only [Act.put, List.setIfInBounds_toArray, List.set_cons_zero, List.set_cons_succ]
        refine wpN_done (by kernel_rfl) (fun wq ho => ?_) _
        replace CX := Lib.hid (CX.out.noth (Only.undrew ho))
        cases is
        · have HN := Lib.hid (put_at_ne HS.out HB.out (fun y hy => by rw [HX.out] at hy; injection hy with hy; subst hy; exact ⟨HL.out, fun hk => by have := HI.out; rw [beq_eq_false_iff_ne] at this; exact this hk⟩))
          replace ON := Lib.hid (ON.out.tr (Only.undrew ho))
          replace B1 := Lib.hid (B1.out.only (Only.undrew ho) (fun h => h))
          replace B2 := Lib.hid (B2.out.only (Only.undrew ho) (fun h => h))
          replace B3 := Lib.hid (B3.out.only (Only.undrew ho) (fun h => h))
          replace E0 := Lib.hid (E0.out.noth (Only.undrew ho))
          replace O0 := Lib.hid (O0.out.tr (Only.undrew ho))
          clear ho
          obtain ⟨hno, HP⟩ := HN.out
          have HNO := Lib.hid hno
          clear hno
          go_wp2_with fail
          refine wp_region_N Noth (by kernel_rfl) ?_
          refine wpN_take (i := 0) (d := some 54) rfl rfl (by kernel_rfl) (by kernel_rfl) (by kernel_rfl) (fun _ _ _ h => h) (sure_value (v := .bool false) (by rfl) (fun v1 h1 => by first | rfl | (go_simp; done) | (go_simp; intro h9; exact absurd h9 (by omega)) | (go_simp; assumption))) (Only.refl _ _) ?_
          simp only [Act.put, List.setIfInBounds_toArray, List.set_cons_zero, List.set_cons_succ]
          refine wpN_take (i := 1) (d := some 55) rfl rfl (by kernel_rfl) (by kernel_rfl) (by kernel_rfl) (fun _ _ _ h => h) (sure_value (v := .bool false) (by rfl) (fun v1 h1 => by first | rfl | (go_simp; done) | (go_simp; intro h9; exact absurd h9 (by omega)) | (go_simp; assumption))) (Only.refl _ _) ?_
          simp only [Act.put, List.setIfInBounds_toArray, List.set_cons_zero, List.set_cons_succ]
          refine wpN_take (i := 2) (d := some 56) rfl rfl (by kernel_rfl) (by kernel_rfl) (by kernel_rfl) (fun _ _ _ h => h) (sure_skip (by rfl)) (Only.refl _ _) ?_
          simp only [Act.put, List.setIfInBounds_toArray, List.set_cons_zero, List.set_cons_succ]
          refine wpN_take (i := 3) (d := some 57) rfl rfl (by kernel_rfl) (by kernel_rfl) (by kernel_rfl) (fun _ _ _ h => h) (sure_skip (by rfl)) (Only.refl _ _) ?_
          simp only [Act.put, List.setIfInBounds_toArray, List.set_cons_zero, List.set_cons_succ]
          refine wpN_take (i := 4) (d := some 58) rfl rfl (by kernel_rfl) (by kernel_rfl) (by kernel_rfl) (fun _ _ _ h => h) (sure_skip (by rfl)) (Only.refl _ _) ?_
          simp only [Act.put, List.setIfInBounds_toArray, List.set_cons_zero, List.set_cons_succ]
          refine wpN_take (i := 5) (d := some 59) rfl rfl (by kernel_rfl) (by kernel_rfl) (by kernel_rfl) (fun _ _ _ h => h) (sure_skip (by rfl)) (Only.refl _ _) ?_
          simp only [Act.put, List.setIfInBounds_toArray, List.set_cons_zero, List.set_cons_succ]
          refine wpN_take (i := 6) (d := some 60) rfl rfl (by kernel_rfl) (by kernel_rfl) (by kernel_rfl) (fun _ _ _ h => h) (sure_skip (by rfl)) (Only.refl _ _) ?_
          simp only [Act.put, List.setIfInBounds_toArray, List.set_cons_zero, List.set_cons_succ]
          refine wpN_take (i := 7) (d := some 61) rfl rfl (by kernel_rfl) (by kernel_rfl) (by kernel_rfl) (fun _ _ _ h => h) (sure_skip (by rfl)) (Only.refl _ _) ?_
          simp only [Act.put, List.setIfInBounds_toArray, List.set_cons_zero, List.set_cons_succ]
          refine wpN_take (i := 8) (d := some 62) rfl rfl (by kernel_rfl) (by kernel_rfl) (by kernel_rfl) (fun _ _ _ h => h) (sure_skip (by rfl)) (Only.refl _ _) ?_
          simp only [Act.put, List.setIfInBounds_toArray, List.set_cons_zero, List.set_cons_succ]
          refine wpN_take (i := 9) (d := some 63) rfl rfl (by kernel_rfl) (by kernel_rfl) (by kernel_rfl) (fun _ _ _ h => h) (sure_skip (by rfl)) (Only.refl _ _) ?_
          simp only [Act.put, List.setIfInBounds_toArray, List.set_cons_zero, List.set_cons_succ]
          refine wpN_take (i := 10) (d := some 64) rfl rfl (by kernel_rfl) (by kernel_rfl) (by kernel_rfl) (fun _ _ _ h => h) (sure_value (v := .bool false) (by rfl) (fun v1 h1 => by first | rfl | (go_simp; done) | (go_simp; intro h9; exact absurd h9 (by omega)) | (go_simp; assumption))) (Only.refl _ _) ?_
          simp only [Act.put, List.setIfInBounds_toArray, List.set_cons_zero, List.set_cons_succ]
          refine wpN_take (i := 11) (d := some 53) rfl rfl (by kernel_rfl) (by kernel_rfl) (by kernel_rfl) (fun _ _ _ h => h) (sure_value (v := .bool false) (by rfl) (fun v1 h1 => by first | rfl | (go_simp; done) | (go_simp; intro h9; exact absurd h9 (by omega)) | (go_simp; assumption))) (Only.refl _ _) ?_
          simp only [Act.put, List.setIfInBounds_toArray, List.set_cons_zero, List.set_cons_succ]
          refine wpN_done (by kernel_rfl) (fun w8 ho => ?_) _
          replace ON := Lib.hid (ON.out.tr (Only.undrew ho))
          replace B1 := Lib.hid (B1.out.only (Only.undrew ho) (fun h => h))
          replace B2 := Lib.hid (B2.out.only (Only.undrew ho) (fun h => h))
          replace B3 := Lib.hid (B3.out.only (Only.undrew ho) (fun h => h))
          replace E0 := Lib.hid (E0.out.noth (Only.undrew ho))
          replace O0 := Lib.hid (O0.out.tr (Only.undrew ho))
          clear ho
          have m0 : _ = some (Value.slice (some ⟨xb, xo, none⟩) L.length c) := B1.out.cell 0
          by_cases hfull : (256 : Int) ≤ L.length
          · skip
            have HC := Lib.hid (cstep_full H0.out HNO.out (by omega))
            have m0 : _ = some (Value.slice (some ⟨xb, xo, none⟩) L.length c) := B1.out.cell 0
            go_wp2_with (refine wpList_store_whole rfl rfl 28 (.tmp 4) (.tmp 75) rfl (w.heap.size + 1 + 1) rfl #[.slice (some ⟨xb, xo, none⟩) L.length c] rfl 28 _ B3.out rfl (by simp [Value.oneCell']) (by kernel_rfl) ?_; intro w9 hb9 ho9 _; have y0 := hb9.cell 0; have E9 := Lib.hid (HE.out.old E0.out ho9 (by omega)); have O9 := Lib.hid (O0.out.trans ho9 (fun j hj hl => by have hj : j = w.heap.size + 1 + 1 := hj; omega)); clear hb9 ho9)
            refine bodyPost_ret (v := .tuple #[.agg #[.slice (some ⟨xb, xo, none⟩) L.length c], .bool (cstep L e).2.1, .int .i64 (cstep L e).2.2]) (by rw [HC.out]; simp [results, Try.results15, go_sem, *]) rfl ?_
            rw [HC.out]
            exact ⟨⟨_, c, L, rfl, rfl, E9.out⟩, O9.out⟩
          · go_wp2_with fail
            obtain ⟨A1, hr1, he1⟩ := ents_to (k) E0.out (by omega)
            obtain ⟨A2, c2, hr2, he2⟩ := ents_from (k) E0.out (by omega)
            have hpl : (L.take (k)).length ≤ L.length := by rw [List.length_take]; omega
            have hdl : (L.drop (k)).length ≤ L.length := by rw [List.length_drop]; omega
            obtain ⟨PL, hPL⟩ : ∃ PL, L.take (k) = PL := ⟨_, rfl⟩
            obtain ⟨DL, hDL⟩ : ∃ DL, L.drop (k) = DL := ⟨_, rfl⟩
            rw [hPL] at hr1 he1 hpl HP
            rw [hDL] at hr2 he2 hdl HP
            have E1 := Lib.hid he1
            have E2 := Lib.hid he2
            have HR1 := Lib.hid hr1
            have HR2 := Lib.hid (show ∀ V : World, (Instr.slice 22 (.slice (some ⟨xb, xo, none⟩) L.length c) (some (.int .i64 (k : Int))) none none).run Try.prog V = .ok (.slice A2 DL.length c2) V from by simpa using hr2)
            have HPP := Lib.hid HP
            clear he1 he2 hr1 hr2 hPL hDL HP
            go_wp2_with fail
            refine wp_region_N Noth (by kernel_rfl) ?_
            refine wpN_take (i := 0) (d := some 76) rfl rfl (by kernel_rfl) (by kernel_rfl) (by kernel_rfl) (fun _ _ _ h => h) (sure_value (v := .slice none 0 0) (by rfl) (fun v1 h1 => by first | rfl | (go_simp; done) | (go_simp; intro h9; exact absurd h9 (by omega)) | (go_simp; assumption))) (Only.refl _ _) ?_
            simp only [Act.put, List.setIfInBounds_toArray, List.set_cons_zero, List.set_cons_succ]
            refine wpN_take (i := 1) (d := some 77) rfl rfl (by kernel_rfl) (by kernel_rfl) (by kernel_rfl) (fun _ _ _ h => h) (sure_value (v := .pointer (some ⟨w.heap.size, 0, none⟩)) (by rfl) (fun v1 h1 => by first | rfl | (go_simp; done) | (go_simp; intro h9; exact absurd h9 (by omega)) | (go_simp; assumption))) (Only.refl _ _) ?_
            simp only [Act.put, List.setIfInBounds_toArray, List.set_cons_zero, List.set_cons_succ]
            refine wpN_take (i := 2) (d := some 78) rfl rfl (by kernel_rfl) (by kernel_rfl) (by kernel_rfl) (fun _ _ _ h => h) (sure_lit (v := .slice (some ⟨xb, xo, none⟩) L.length c) (i := 0) B1.out.drew rfl (fun h => h) (by rfl) (fun _ h => by go_simp)) (Only.refl _ _) ?_
            simp only [Act.put, List.setIfInBounds_toArray, List.set_cons_zero, List.set_cons_succ]
            refine wpN_take (i := 3) (d := some 79) rfl rfl (by kernel_rfl) (by kernel_rfl) (by kernel_rfl) (fun _ _ _ h => h) (sure_value (v := .int .i64 (k : Int)) (by rfl) (fun v1 h1 => by first | rfl | (go_simp; done) | (go_simp; intro h9; exact absurd h9 (by omega)) | (go_simp; assumption))) (Only.refl _ _) ?_
            simp only [Act.put, List.setIfInBounds_toArray, List.set_cons_zero, List.set_cons_succ]
            refine wpN_take (i := 4) (d := some 80) rfl rfl (by kernel_rfl) (by kernel_rfl) (by kernel_rfl) (fun _ _ _ h => h) (sure_slice HR1.out (by kernel_rfl) (by rfl) rfl rfl rfl rfl) (Only.refl _ _) ?_
            simp only [Act.put, List.setIfInBounds_toArray, List.set_cons_zero, List.set_cons_succ]
            refine wpN_take (i := 6) (d := some 82) rfl rfl (by kernel_rfl) (by kernel_rfl) (by kernel_rfl) (fun _ _ _ h => h) (sure_at (EntCell.box B2.out).drew (fun h => h) (by rfl) rfl rfl) (Only.refl _ _) ?_
            simp only [Act.put, List.setIfInBounds_toArray, List.set_cons_zero, List.set_cons_succ]
            refine wpN_run2 (i := 5) (j := 7) (d := some 81) (d' := some 83) (RowV w8.drew PL) (OneV w8.drew e) (fun _ _ _ h ho => h.noth ho) (fun _ _ _ h ho => h.noth ho) (by kernel_rfl) (by kernel_rfl) (by kernel_rfl) (by decide) rfl rfl rfl rfl rfl rfl (by simp) (Only.refl _ _) (fun u w2 h2 => ?_) (fun u w2 h2 => ?_) ?_
            · obtain ⟨B, d, w3, hrun, hrow, ho⟩ := app_ents_run w2 w2 22 (ERow.empty w2 w2 none) (E1.out.noth (Only.undrew h2)) (by simp only [List.length_nil]; omega) (Only.refl _ _)
              simp only [List.nil_append] at hrun hrow
              exact ⟨_, w3, app_op rfl rfl rfl hrun, app_op rfl rfl rfl hrun, ⟨B, d, rfl, hrow.up h2.size⟩, ho.mono (fun j hj hl => by have hj : w2.heap.size ≤ j := hj; omega)⟩
            · exact ⟨.slice (some ⟨w2.heap.size, 0, none⟩) 1 1, w2.alloc (.cells e.arr 34), by go_simp, by go_simp, ⟨w2.heap.size, h2.size, rfl, ents_one (Hld.new w2 34 e.arr)⟩, (Only.refl _ _).alloc _⟩
            rintro v u w2 ⟨B, d, rfl, hrow⟩ ⟨p, _, rfl, hone⟩ ho2
            have ER := Lib.hid hrow
            have EO := Lib.hid hone
            have OB := Lib.hid ho2
            clear hrow hone ho2
            simp only [Act.put, List.setIfInBounds_toArray, List.set_cons_zero, List.set_cons_succ]
            refine wpN_run1 (i := 8) (d := some 84) (RowV w8.drew (PL ++ [e])) (by kernel_rfl) rfl rfl (by rfl) (fun w3 h3 => ?_) ?_
            · obtain ⟨B9, d9, w4, hrun, hrow, ho⟩ := app_ents_run w8.drew w3 22 (ER.out.noth h3) (EO.out.noth h3) (by simp only [List.length_cons, List.length_nil]; omega) (OB.out.tr h3)
              exact ⟨_, w4, app_op rfl rfl rfl hrun, ⟨B9, d9, rfl, hrow⟩, (OB.out.tr h3).trans ho (fun j hj hl => by have hj : w8.drew.heap.size ≤ j := hj; have hl : j < w8.drew.heap.size := hl; omega)⟩
            rintro v w3 ⟨B9, d9, rfl, hrow⟩ ho3
            refine wpN_rebase ho3 ?_
            have ER9 := Lib.hid hrow
            have OB9 := Lib.hid ho3
            clear hrow ho3 ER EO OB
            simp only [Act.put, List.setIfInBounds_toArray, List.set_cons_zero, List.set_cons_succ]
            refine wpN_take (i := 9) (d := some 11) rfl rfl (by kernel_rfl) (by kernel_rfl) (by kernel_rfl) (fun _ _ _ h => h) (sure_value (v := .slice B9 (PL ++ [e]).length d9) (by rfl) (fun v1 h1 => by first | rfl | (go_simp; done) | (go_simp; intro h9; exact absurd h9 (by omega)) | (go_simp; assumption))) (Only.refl _ _) ?_
            simp only [Act.put, List.setIfInBounds_toArray, List.set_cons_zero, List.set_cons_succ]
            refine wpN_done (by kernel_rfl) (fun w10 ho => ?_) _
            have ER10 := Lib.hid ((ER9.out.noth ho).up (w0 := w1) ON.out.size)
            replace ho := OB9.out.tr ho
            replace E2 := Lib.hid (E2.out.noth (Only.undrew ho))
            clear ER9 OB9 E1 HR1
            replace ON := Lib.hid (ON.out.tr (Only.undrew ho))
            replace B1 := Lib.hid (B1.out.only (Only.undrew ho) (fun h => h))
            replace B2 := Lib.hid (B2.out.only (Only.undrew ho) (fun h => h))
            replace B3 := Lib.hid (B3.out.only (Only.undrew ho) (fun h => h))
            replace E0 := Lib.hid (E0.out.noth (Only.undrew ho))
            replace O0 := Lib.hid (O0.out.tr (Only.undrew ho))
            clear ho
            have hr2 := HR2.out
            have m0 : _ = some (Value.slice (some ⟨xb, xo, none⟩) L.length c) := B1.out.cell 0
            have HC := Lib.hid (cstep_new H0.out HNO.out (by omega))
            have hlen1 : (PL ++ [e]).length = PL.length + 1 := by simp
            go_wp2_with (first | (at_builtin; refine wpList_app_ents w1 _ rfl (.tmp 85) (.tmp 89) rfl (l := PL ++ [e]) (m := DL) rfl ER10.out rfl E2.out (by omega) ON.out ?_; intro B11 d11 M11 w11 hM hr ho; have EF := Lib.hid hr; have HM := Lib.hid hM; replace B3 := Lib.hid (BX.out.only ho (fun h => h)); replace O0 := Lib.hid (OX.out.tr ho); clear hM hr ho) | (refine wpList_store_whole rfl rfl 28 (.tmp 4) (.tmp 91) rfl (w.heap.size + 1 + 1) rfl #[.slice B11 M11.length d11] rfl 28 _ B3.out rfl (by simp [Value.oneCell']) (by kernel_rfl) ?_; intro w9 hb9 ho9 _; have y0 := hb9.cell 0; have E9 := Lib.hid (show ERow w1 w9 B11 d11 M11 from Row.only EF.out ho9 (fun k hk hkp => by have hk : w1.heap.size ≤ k := hk; have hkp : k = w.heap.size + 1 + 1 := hkp; omega)); have O9 := Lib.hid (O0.out.trans ho9 (fun j hj hl => by have hj : j = w.heap.size + 1 + 1 := hj; omega)); clear hb9 ho9))
            refine bodyPost_ret (v := .tuple #[.agg #[.slice B11 M11.length d11], .bool (cstep L e).2.1, .int .i64 (cstep L e).2.2]) (by rw [HC.out]; simp [results, Try.results15, go_sem, *]) rfl ?_
            rw [HC.out]
            exact ⟨⟨B11, d11, M11, by rw [HM.out, HPP.out]; simp, rfl, ERow.ents E9.out⟩, O9.out⟩
        · have HK := Lib.hid (put_at_eq HS.out HX.out (show x.kb = e.kb by have := HI.out; simpa [Ent.kb] using this))
          replace ON := Lib.hid (ON.out.tr (Only.undrew ho))
          replace B1 := Lib.hid (B1.out.only (Only.undrew ho) (fun h => h))
          replace B2 := Lib.hid (B2.out.only (Only.undrew ho) (fun h => h))
          replace B3 := Lib.hid (B3.out.only (Only.undrew ho) (fun h => h))
          replace E0 := Lib.hid (E0.out.noth (Only.undrew ho))
          replace O0 := Lib.hid (O0.out.tr (Only.undrew ho))
          clear ho
          obtain ⟨hg, HP⟩ := HK.out
          have HG := Lib.hid hg
          clear hg
          obtain ⟨ab, hab⟩ : ∃ ab, e.above x = ab := ⟨_, rfl⟩
          have HA := Lib.hid hab
          clear hab
          go_wp2_with fail
          refine wp_region_N Noth (by kernel_rfl) ?_
          refine wpN_take (i := 0) (d := some 54) rfl rfl (by kernel_rfl) (by kernel_rfl) (by kernel_rfl) (fun _ _ _ h => h) (sure_value (v := .bool true) (by rfl) (fun v1 h1 => by first | rfl | (go_simp; done) | (go_simp; intro h9; exact absurd h9 (by omega)) | (go_simp; assumption))) (Only.refl _ _) ?_
          simp only [Act.put, List.setIfInBounds_toArray, List.set_cons_zero, List.set_cons_succ]
          refine wpN_take (i := 1) (d := some 55) rfl rfl (by kernel_rfl) (by kernel_rfl) (by kernel_rfl) (fun _ _ _ h => h) (sure_value (v := .bool true) (by rfl) (fun v1 h1 => by first | rfl | (go_simp; done) | (go_simp; intro h9; exact absurd h9 (by omega)) | (go_simp; assumption))) (Only.refl _ _) ?_
          simp only [Act.put, List.setIfInBounds_toArray, List.set_cons_zero, List.set_cons_succ]
          refine wpN_take (i := 2) (d := some 56) rfl rfl (by kernel_rfl) (by kernel_rfl) (by kernel_rfl) (fun _ _ _ h => h) (sure_at (EntCell.box B2.out).drew (fun h => h) (by rfl) rfl rfl) (Only.refl _ _) ?_
          simp only [Act.put, List.setIfInBounds_toArray, List.set_cons_zero, List.set_cons_succ]
          refine wpN_take (i := 3) (d := some 57) rfl rfl (by kernel_rfl) (by kernel_rfl) (by kernel_rfl) (fun _ _ _ h => h) (sure_value (v := .pointer (some ⟨w.heap.size, 0, none⟩)) (by rfl) (fun v1 h1 => by first | rfl | (go_simp; done) | (go_simp; intro h9; exact absurd h9 (by omega)) | (go_simp; assumption))) (Only.refl _ _) ?_
          simp only [Act.put, List.setIfInBounds_toArray, List.set_cons_zero, List.set_cons_succ]
          refine wpN_take (i := 4) (d := some 58) rfl rfl (by kernel_rfl) (by kernel_rfl) (by kernel_rfl) (fun _ _ _ h => h) (sure_lit (v := .slice (some ⟨xb, xo, none⟩) L.length c) (i := 0) B1.out.drew rfl (fun h => h) (by rfl) (fun _ h => by go_simp)) (Only.refl _ _) ?_
          simp only [Act.put, List.setIfInBounds_toArray, List.set_cons_zero, List.set_cons_succ]
          refine wpN_take (i := 5) (d := some 59) rfl rfl (by kernel_rfl) (by kernel_rfl) (by kernel_rfl) (fun _ _ _ h => h) (sure_value (v := .int .i64 (k : Int)) (by rfl) (fun v1 h1 => by first | rfl | (go_simp; done) | (go_simp; intro h9; exact absurd h9 (by omega)) | (go_simp; assumption))) (Only.refl _ _) ?_
          simp only [Act.put, List.setIfInBounds_toArray, List.set_cons_zero, List.set_cons_succ]
          refine wpN_take (i := 6) (d := some 60) rfl rfl (by kernel_rfl) (by kernel_rfl) (by kernel_rfl) (fun _ _ _ h => h) (sure_value (v := .pointer (some ⟨xb, xo + k * 5, none⟩)) (by rfl) (fun v1 h1 => by first | rfl | (go_simp; done) | (go_simp; intro h9; exact absurd h9 (by omega)) | (go_simp; assumption))) (Only.refl _ _) ?_
          simp only [Act.put, List.setIfInBounds_toArray, List.set_cons_zero, List.set_cons_succ]
          refine wpN_take (i := 7) (d := some 61) rfl rfl (by kernel_rfl) (by kernel_rfl) (by kernel_rfl) (fun _ _ _ h => h) (sure_at CX.out.drew (fun h => h) (by rfl) rfl rfl) (Only.refl _ _) ?_
          simp only [Act.put, List.setIfInBounds_toArray, List.set_cons_zero, List.set_cons_succ]
          refine wpN_take (i := 8) (d := some 62) rfl rfl (by kernel_rfl) (by kernel_rfl) (by kernel_rfl) (fun _ _ _ h => h) (sure_call (v := .bool ab) (fun w' _ => by have := ref_above e x w'; rw [HA.out] at this; exact this) (by rfl) (fun _ => by go_simp)) (Only.refl _ _) ?_
          simp only [Act.put, List.setIfInBounds_toArray, List.set_cons_zero, List.set_cons_succ]
          refine wpN_take (i := 9) (d := some 63) rfl rfl (by kernel_rfl) (by kernel_rfl) (by kernel_rfl) (fun _ _ _ h => h) (sure_value (v := .bool (!ab)) (by rfl) (fun v1 h1 => by first | rfl | (go_simp; done) | (go_simp; intro h9; exact absurd h9 (by omega)) | (go_simp; assumption))) (Only.refl _ _) ?_
          simp only [Act.put, List.setIfInBounds_toArray, List.set_cons_zero, List.set_cons_succ]
          refine wpN_take (i := 10) (d := some 64) rfl rfl (by kernel_rfl) (by kernel_rfl) (by kernel_rfl) (fun _ _ _ h => h) (sure_value (v := .bool (!ab)) (by rfl) (fun v1 h1 => by first | rfl | (go_simp; done) | (go_simp; intro h9; exact absurd h9 (by omega)) | (go_simp; assumption))) (Only.refl _ _) ?_
          simp only [Act.put, List.setIfInBounds_toArray, List.set_cons_zero, List.set_cons_succ]
          refine wpN_take (i := 11) (d := some 53) rfl rfl (by kernel_rfl) (by kernel_rfl) (by kernel_rfl) (fun _ _ _ h => h) (sure_value (v := .bool (!ab)) (by rfl) (fun v1 h1 => by first | rfl | (go_simp; done) | (go_simp; intro h9; exact absurd h9 (by omega)) | (go_simp; assumption))) (Only.refl _ _) ?_
          simp only [Act.put, List.setIfInBounds_toArray, List.set_cons_zero, List.set_cons_succ]
          refine wpN_done (by kernel_rfl) (fun w8 ho => ?_) _
          replace ON := Lib.hid (ON.out.tr (Only.undrew ho))
          replace B1 := Lib.hid (B1.out.only (Only.undrew ho) (fun h => h))
          replace B2 := Lib.hid (B2.out.only (Only.undrew ho) (fun h => h))
          replace B3 := Lib.hid (B3.out.only (Only.undrew ho) (fun h => h))
          replace E0 := Lib.hid (E0.out.noth (Only.undrew ho))
          replace O0 := Lib.hid (O0.out.tr (Only.undrew ho))
          clear ho
          have m0 : _ = some (Value.slice (some ⟨xb, xo, none⟩) L.length c) := B1.out.cell 0
          cases ab
          · skip
            have HC := Lib.hid (cstep_no H0.out HG.out HA.out)
            have m0 : _ = some (Value.slice (some ⟨xb, xo, none⟩) L.length c) := B1.out.cell 0
            go_wp2_with (refine wpList_store_whole rfl rfl 28 (.tmp 4) (.tmp 65) rfl (w.heap.size + 1 + 1) rfl #[.slice (some ⟨xb, xo, none⟩) L.length c] rfl 28 _ B3.out rfl (by simp [Value.oneCell']) (by kernel_rfl) ?_; intro w9 hb9 ho9 _; have y0 := hb9.cell 0; have E9 := Lib.hid (HE.out.old E0.out ho9 (by omega)); have O9 := Lib.hid (O0.out.trans ho9 (fun j hj hl => by have hj : j = w.heap.size + 1 + 1 := hj; omega)); clear hb9 ho9)
            refine bodyPost_ret (v := .tuple #[.agg #[.slice (some ⟨xb, xo, none⟩) L.length c], .bool (cstep L e).2.1, .int .i64 (cstep L e).2.2]) (by rw [HC.out]; simp [results, Try.results15, go_sem, *]) rfl ?_
            rw [HC.out]
            exact ⟨⟨_, c, L, rfl, rfl, E9.out⟩, O9.out⟩
          · go_wp2_with fail
            obtain ⟨A1, hr1, he1⟩ := ents_to (k) E0.out (by omega)
            obtain ⟨A2, c2, hr2, he2⟩ := ents_from (k + 1) E0.out (by omega)
            have hpl : (L.take (k)).length ≤ L.length := by rw [List.length_take]; omega
            have hdl : (L.drop (k + 1)).length ≤ L.length := by rw [List.length_drop]; omega
            obtain ⟨PL, hPL⟩ : ∃ PL, L.take (k) = PL := ⟨_, rfl⟩
            obtain ⟨DL, hDL⟩ : ∃ DL, L.drop (k + 1) = DL := ⟨_, rfl⟩
            rw [hPL] at hr1 he1 hpl HP
            rw [hDL] at hr2 he2 hdl HP
            have E1 := Lib.hid he1
            have E2 := Lib.hid he2
            have HR1 := Lib.hid hr1
            have HR2 := Lib.hid (show ∀ V : World, (Instr.slice 22 (.slice (some ⟨xb, xo, none⟩) L.length c) (some (.int .i64 ((k : Int) + 1))) none none).run Try.prog V = .ok (.slice A2 DL.length c2) V from by simpa using hr2)
            have HPP := Lib.hid HP
            clear he1 he2 hr1 hr2 hPL hDL HP
            go_wp2_with fail
            refine wp_region_N Noth (by kernel_rfl) ?_
            refine wpN_take (i := 0) (d := some 76) rfl rfl (by kernel_rfl) (by kernel_rfl) (by kernel_rfl) (fun _ _ _ h => h) (sure_value (v := .slice none 0 0) (by rfl) (fun v1 h1 => by first | rfl | (go_simp; done) | (go_simp; intro h9; exact absurd h9 (by omega)) | (go_simp; assumption))) (Only.refl _ _) ?_
            simp only [Act.put, List.setIfInBounds_toArray, List.set_cons_zero, List.set_cons_succ]
            refine wpN_take (i := 1) (d := some 77) rfl rfl (by kernel_rfl) (by kernel_rfl) (by kernel_rfl) (fun _ _ _ h => h) (sure_value (v := .pointer (some ⟨w.heap.size, 0, none⟩)) (by rfl) (fun v1 h1 => by first | rfl | (go_simp; done) | (go_simp; intro h9; exact absurd h9 (by omega)) | (go_simp; assumption))) (Only.refl _ _) ?_
            simp only [Act.put, List.setIfInBounds_toArray, List.set_cons_zero, List.set_cons_succ]
            refine wpN_take (i := 2) (d := some 78) rfl rfl (by kernel_rfl) (by kernel_rfl) (by kernel_rfl) (fun _ _ _ h => h) (sure_lit (v := .slice (some ⟨xb, xo, none⟩) L.length c) (i := 0) B1.out.drew rfl (fun h => h) (by rfl) (fun _ h => by go_simp)) (Only.refl _ _) ?_
            simp only [Act.put, List.setIfInBounds_toArray, List.set_cons_zero, List.set_cons_succ]
            refine wpN_take (i := 3) (d := some 79) rfl rfl (by kernel_rfl) (by kernel_rfl) (by kernel_rfl) (fun _ _ _ h => h) (sure_value (v := .int .i64 (k : Int)) (by rfl) (fun v1 h1 => by first | rfl | (go_simp; done) | (go_simp; intro h9; exact absurd h9 (by omega)) | (go_simp; assumption))) (Only.refl _ _) ?_
            simp only [Act.put, List.setIfInBounds_toArray, List.set_cons_zero, List.set_cons_succ]
            refine wpN_take (i := 4) (d := some 80) rfl rfl (by kernel_rfl) (by kernel_rfl) (by kernel_rfl) (fun _ _ _ h => h) (sure_slice HR1.out (by kernel_rfl) (by rfl) rfl rfl rfl rfl) (Only.refl _ _) ?_
            simp only [Act.put, List.setIfInBounds_toArray, List.set_cons_zero, List.set_cons_succ]
            refine wpN_take (i := 6) (d := some 82) rfl rfl (by kernel_rfl) (by kernel_rfl) (by kernel_rfl) (fun _ _ _ h => h) (sure_at (EntCell.box B2.out).drew (fun h => h) (by rfl) rfl rfl) (Only.refl _ _) ?_
            simp only [Act.put, List.setIfInBounds_toArray, List.set_cons_zero, List.set_cons_succ]
            refine wpN_run2 (i := 5) (j := 7) (d := some 81) (d' := some 83) (RowV w8.drew PL) (OneV w8.drew e) (fun _ _ _ h ho => h.noth ho) (fun _ _ _ h ho => h.noth ho) (by kernel_rfl) (by kernel_rfl) (by kernel_rfl) (by decide) rfl rfl rfl rfl rfl rfl (by simp) (Only.refl _ _) (fun u w2 h2 => ?_) (fun u w2 h2 => ?_) ?_
            · obtain ⟨B, d, w3, hrun, hrow, ho⟩ := app_ents_run w2 w2 22 (ERow.empty w2 w2 none) (E1.out.noth (Only.undrew h2)) (by simp only [List.length_nil]; omega) (Only.refl _ _)
              simp only [List.nil_append] at hrun hrow
              exact ⟨_, w3, app_op rfl rfl rfl hrun, app_op rfl rfl rfl hrun, ⟨B, d, rfl, hrow.up h2.size⟩, ho.mono (fun j hj hl => by have hj : w2.heap.size ≤ j := hj; omega)⟩
            · exact ⟨.slice (some ⟨w2.heap.size, 0, none⟩) 1 1, w2.alloc (.cells e.arr 34), by go_simp, by go_simp, ⟨w2.heap.size, h2.size, rfl, ents_one (Hld.new w2 34 e.arr)⟩, (Only.refl _ _).alloc _⟩
            rintro v u w2 ⟨B, d, rfl, hrow⟩ ⟨p, _, rfl, hone⟩ ho2
            have ER := Lib.hid hrow
            have EO := Lib.hid hone
            have OB := Lib.hid ho2
            clear hrow hone ho2
            simp only [Act.put, List.setIfInBounds_toArray, List.set_cons_zero, List.set_cons_succ]
            refine wpN_run1 (i := 8) (d := some 84) (RowV w8.drew (PL ++ [e])) (by kernel_rfl) rfl rfl (by rfl) (fun w3 h3 => ?_) ?_
            · obtain ⟨B9, d9, w4, hrun, hrow, ho⟩ := app_ents_run w8.drew w3 22 (ER.out.noth h3) (EO.out.noth h3) (by simp only [List.length_cons, List.length_nil]; omega) (OB.out.tr h3)
              exact ⟨_, w4, app_op rfl rfl rfl hrun, ⟨B9, d9, rfl, hrow⟩, (OB.out.tr h3).trans ho (fun j hj hl => by have hj : w8.drew.heap.size ≤ j := hj; have hl : j < w8.drew.heap.size := hl; omega)⟩
            rintro v w3 ⟨B9, d9, rfl, hrow⟩ ho3
            refine wpN_rebase ho3 ?_
            have ER9 := Lib.hid hrow
            have OB9 := Lib.hid ho3
            clear hrow ho3 ER EO OB
            simp only [Act.put, List.setIfInBounds_toArray, List.set_cons_zero, List.set_cons_succ]
            refine wpN_take (i := 9) (d := some 11) rfl rfl (by kernel_rfl) (by kernel_rfl) (by kernel_rfl) (fun _ _ _ h => h) (sure_value (v := .slice B9 (PL ++ [e]).length d9) (by rfl) (fun v1 h1 => by first | rfl | (go_simp; done) | (go_simp; intro h9; exact absurd h9 (by omega)) | (go_simp; assumption))) (Only.refl _ _) ?_
            simp only [Act.put, List.setIfInBounds_toArray, List.set_cons_zero, List.set_cons_succ]
            refine wpN_done (by kernel_rfl) (fun w10 ho => ?_) _
            have ER10 := Lib.hid ((ER9.out.noth ho).up (w0 := w1) ON.out.size)
            replace ho := OB9.out.tr ho
            replace E2 := Lib.hid (E2.out.noth (Only.undrew ho))
            clear ER9 OB9 E1 HR1
            replace ON := Lib.hid (ON.out.tr (Only.undrew ho))
            replace B1 := Lib.hid (B1.out.only (Only.undrew ho) (fun h => h))
            replace B2 := Lib.hid (B2.out.only (Only.undrew ho) (fun h => h))
            replace B3 := Lib.hid (B3.out.only (Only.undrew ho) (fun h => h))
            replace E0 := Lib.hid (E0.out.noth (Only.undrew ho))
            replace O0 := Lib.hid (O0.out.tr (Only.undrew ho))
            clear ho
            have hr2 := HR2.out
            have m0 : _ = some (Value.slice (some ⟨xb, xo, none⟩) L.length c) := B1.out.cell 0
            have HC := Lib.hid (cstep_up H0.out HG.out HA.out)
            have hlen1 : (PL ++ [e]).length = PL.length + 1 := by simp
            go_wp2_with (first | (at_builtin; refine wpList_app_ents w1 _ rfl (.tmp 85) (.tmp 89) rfl (l := PL ++ [e]) (m := DL) rfl ER10.out rfl E2.out (by omega) ON.out ?_; intro B11 d11 M11 w11 hM hr ho; have EF := Lib.hid hr; have HM := Lib.hid hM; replace B3 := Lib.hid (BX.out.only ho (fun h => h)); replace O0 := Lib.hid (OX.out.tr ho); clear hM hr ho) | (refine wpList_store_whole rfl rfl 28 (.tmp 4) (.tmp 91) rfl (w.heap.size + 1 + 1) rfl #[.slice B11 M11.length d11] rfl 28 _ B3.out rfl (by simp [Value.oneCell']) (by kernel_rfl) ?_; intro w9 hb9 ho9 _; have y0 := hb9.cell 0; have E9 := Lib.hid (show ERow w1 w9 B11 d11 M11 from Row.only EF.out ho9 (fun k hk hkp => by have hk : w1.heap.size ≤ k := hk; have hkp : k = w.heap.size + 1 + 1 := hkp; omega)); have O9 := Lib.hid (O0.out.trans ho9 (fun j hj hl => by have hj : j = w.heap.size + 1 + 1 := hj; omega)); clear hb9 ho9))
            refine bodyPost_ret (v := .tuple #[.agg #[.slice B11 M11.length d11], .bool (cstep L e).2.1, .int .i64 (cstep L e).2.2]) (by rw [HC.out]; simp [results, Try.results15, go_sem, *]) rfl ?_
            rw [HC.out]
            exact ⟨⟨B11, d11, M11, by rw [HM.out, HPP.out]; simp, rfl, ERow.ents E9.out⟩, O9.out⟩
      · go_wp2_with fail
        go_roundw
        case rel =>
          refine ⟨k + 1, by omega, by go_num, fun y hy => ?_, O7.out⟩
          rw [List.take_add_one, HX.out, Option.toList_some] at hy
          rcases List.mem_append.1 hy with hy | hy
          · exact HB.out y hy
          · obtain rfl : y = x := by simpa using hy
            exact HL.out
        case measure => simp [RowKit.intOf]; omega
    · obtain rfl : k = L.length := by omega
      go_wp2_with fail
      refine wp_region_N Noth (by kernel_rfl) ?_
      refine wpN_take (i := 0) (d := some 18) rfl rfl (by kernel_rfl) (by kernel_rfl) (by kernel_rfl) (fun _ _ _ h => h) (sure_value (v := .int .i64 (L.length : Int)) (by rfl) (fun v1 h1 => by first | rfl | (go_simp; done) | (go_simp; intro h9; exact absurd h9 (by omega)) | (go_simp; assumption))) (Only.refl _ _) ?_
      simp only [Act.put, List.setIfInBounds_toArray, List.set_cons_zero, List.set_cons_succ]
      refine wpN_take (i := 1) (d := some 19) rfl rfl (by kernel_rfl) (by kernel_rfl) (by kernel_rfl) (fun _ _ _ h => h) (sure_value (v := .pointer (some ⟨w.heap.size, 0, none⟩)) (by rfl) (fun v1 h1 => by first | rfl | (go_simp; done) | (go_simp; intro h9; exact absurd h9 (by omega)) | (go_simp; assumption))) (Only.refl _ _) ?_
      simp only [Act.put, List.setIfInBounds_toArray, List.set_cons_zero, List.set_cons_succ]
      refine wpN_take (i := 2) (d := some 20) rfl rfl (by kernel_rfl) (by kernel_rfl) (by kernel_rfl) (fun _ _ _ h => h) (sure_lit (v := .slice A L.length c) (i := 0) B1.out.drew rfl (fun h => h) (by rfl) (fun _ h => by go_simp)) (Only.refl _ _) ?_
      simp only [Act.put, List.setIfInBounds_toArray, List.set_cons_zero, List.set_cons_succ]
      refine wpN_take (i := 3) (d := some 21) rfl rfl (by kernel_rfl) (by kernel_rfl) (by kernel_rfl) (fun _ _ _ h => h) (sure_value (v := .int .i64 L.length) (by rfl) (fun v1 h1 => by first | rfl | (go_simp; done) | (go_simp; intro h9; exact absurd h9 (by omega)) | (go_simp; assumption))) (Only.refl _ _) ?_
      simp only [Act.put, List.setIfInBounds_toArray, List.set_cons_zero, List.set_cons_succ]
      refine wpN_take (i := 4) (d := some 22) rfl rfl (by kernel_rfl) (by kernel_rfl) (by kernel_rfl) (fun _ _ _ h => h) (sure_value (v := .bool false) (by rfl) (fun v1 h1 => by first | rfl | (go_simp; done) | (go_simp; intro h9; exact absurd h9 (by omega)) | (go_simp; assumption))) (Only.refl _ _) ?_
      simp only [Act.put, List.setIfInBounds_toArray, List.set_cons_zero, List.set_cons_succ]
      refine wpN_take (i := 5) (d := some 23) rfl rfl (by kernel_rfl) (by kernel_rfl) (by kernel_rfl) (fun _ _ _ h => h) (sure_value (v := .bool false) (by rfl) (fun v1 h1 => by first | rfl | (go_simp; done) | (go_simp; intro h9; exact absurd h9 (by omega)) | (go_simp; assumption))) (Only.refl _ _) ?_
      simp only [Act.put, List.setIfInBounds_toArray, List.set_cons_zero, List.set_cons_succ]
      refine wpN_take (i := 6) (d := some 24) rfl rfl (by kernel_rfl) (by kernel_rfl) (by kernel_rfl) (fun _ _ _ h => h) (sure_skip (by rfl)) (Only.refl _ _) ?_
      simp only [Act.put, List.setIfInBounds_toArray, List.set_cons_zero, List.set_cons_succ]
      refine wpN_take (i := 7) (d := some 25) rfl rfl (by kernel_rfl) (by kernel_rfl) (by kernel_rfl) (fun _ _ _ h => h) (sure_skip (by rfl)) (Only.refl _ _) ?_
      simp only [Act.put, List.setIfInBounds_toArray, List.set_cons_zero, List.set_cons_succ]
      refine wpN_take (i := 8) (d := some 26) rfl rfl (by kernel_rfl) (by kernel_rfl) (by kernel_rfl) (fun _ _ _ h => h) (sure_skip (by rfl)) (Only.refl _ _) ?_
      simp only [Act.put, List.setIfInBounds_toArray, List.set_cons_zero, List.set_cons_succ]
      refine wpN_take (i := 9) (d := some 27) rfl rfl (by kernel_rfl) (by kernel_rfl) (by kernel_rfl) (fun _ _ _ h => h) (sure_skip (by rfl)) (Only.refl _ _) ?_
      simp only [Act.put, List.setIfInBounds_toArray, List.set_cons_zero, List.set_cons_succ]
      refine wpN_take (i := 10) (d := some 28) rfl rfl (by kernel_rfl) (by kernel_rfl) (by kernel_rfl) (fun _ _ _ h => h) (sure_skip (by rfl)) (Only.refl _ _) ?_
      simp only [Act.put, List.setIfInBounds_toArray, List.set_cons_zero, List.set_cons_succ]
      refine wpN_take (i := 11) (d := some 29) rfl rfl (by kernel_rfl) (by kernel_rfl) (by kernel_rfl) (fun _ _ _ h => h) (sure_skip (by rfl)) (Only.refl _ _) ?_
      simp only [Act.put, List.setIfInBounds_toArray, List.set_cons_zero, List.set_cons_succ]
      refine wpN_take (i := 12) (d := some 30) rfl rfl (by kernel_rfl) (by kernel_rfl) (by kernel_rfl) (fun _ _ _ h => h) (sure_skip (by rfl)) (Only.refl _ _) ?_
      simp only [Act.put, List.setIfInBounds_toArray, List.set_cons_zero, List.set_cons_succ]
      refine wpN_take (i := 13) (d := some 31) rfl rfl (by kernel_rfl) (by kernel_rfl) (by kernel_rfl) (fun _ _ _ h => h) (sure_skip (by rfl)) (Only.refl _ _) ?_
      simp only [Act.put, List.setIfInBounds_toArray, List.set_cons_zero, List.set_cons_succ]
      refine wpN_take (i := 14) (d := some 32) rfl rfl (by kernel_rfl) (by kernel_rfl) (by kernel_rfl) (fun _ _ _ h => h) (sure_skip (by rfl)) (Only.refl _ _) ?_
      simp only [Act.put, List.setIfInBounds_toArray, List.set_cons_zero, List.set_cons_succ]
      refine wpN_take (i := 15) (d := some 33) rfl rfl (by kernel_rfl) (by kernel_rfl) (by kernel_rfl) (fun _ _ _ h => h) (sure_value (v := .bool false) (by rfl) (fun v1 h1 => by first | rfl | (go_simp; done) | (go_simp; intro h9; exact absurd h9 (by omega)) | (go_simp; assumption))) (Only.refl _ _) ?_
      simp only [Act.put, List.setIfInBounds_toArray, List.set_cons_zero, List.set_cons_succ]
      refine wpN_done (by kernel_rfl) (fun w7 ho => ?_) _
      replace ON := Lib.hid (ON.out.tr (Only.undrew ho))
      replace B1 := Lib.hid (B1.out.only (Only.undrew ho) (fun h => h))
      replace B2 := Lib.hid (B2.out.only (Only.undrew ho) (fun h => h))
      replace B3 := Lib.hid (B3.out.only (Only.undrew ho) (fun h => h))
      replace E0 := Lib.hid (E0.out.noth (Only.undrew ho))
      replace O0 := Lib.hid (O0.out.tr (Only.undrew ho))
      clear ho
      have HN := Lib.hid (put_at_ne HS.out HB.out (fun x hx => by rw [List.getElem?_eq_none (Nat.le_refl _)] at hx; cases hx))
      go_wp2_with fail
      refine wp_region_N Noth (by kernel_rfl) ?_
      refine wpN_take (i := 0) (d := some 36) rfl rfl (by kernel_rfl) (by kernel_rfl) (by kernel_rfl) (fun _ _ _ h => h) (sure_value (v := .int .i64 (L.length : Int)) (by rfl) (fun v1 h1 => by first | rfl | (go_simp; done) | (go_simp; intro h9; exact absurd h9 (by omega)) | (go_simp; assumption))) (Only.refl _ _) ?_
      simp only [Act.put, List.setIfInBounds_toArray, List.set_cons_zero, List.set_cons_succ]
      refine wpN_take (i := 1) (d := some 37) rfl rfl (by kernel_rfl) (by kernel_rfl) (by kernel_rfl) (fun _ _ _ h => h) (sure_value (v := .pointer (some ⟨w.heap.size, 0, none⟩)) (by rfl) (fun v1 h1 => by first | rfl | (go_simp; done) | (go_simp; intro h9; exact absurd h9 (by omega)) | (go_simp; assumption))) (Only.refl _ _) ?_
      simp only [Act.put, List.setIfInBounds_toArray, List.set_cons_zero, List.set_cons_succ]
      refine wpN_take (i := 2) (d := some 38) rfl rfl (by kernel_rfl) (by kernel_rfl) (by kernel_rfl) (fun _ _ _ h => h) (sure_lit (v := .slice A L.length c) (i := 0) B1.out.drew rfl (fun h => h) (by rfl) (fun _ h => by go_simp)) (Only.refl _ _) ?_
      simp only [Act.put, List.setIfInBounds_toArray, List.set_cons_zero, List.set_cons_succ]
      refine wpN_take (i := 3) (d := some 39) rfl rfl (by kernel_rfl) (by kernel_rfl) (by kernel_rfl) (fun _ _ _ h => h) (sure_value (v := .int .i64 L.length) (by rfl) (fun v1 h1 => by first | rfl | (go_simp; done) | (go_simp; intro h9; exact absurd h9 (by omega)) | (go_simp; assumption))) (Only.refl _ _) ?_
      simp only [Act.put, List.setIfInBounds_toArray, List.set_cons_zero, List.set_cons_succ]
      refine wpN_take (i := 4) (d := some 40) rfl rfl (by kernel_rfl) (by kernel_rfl) (by kernel_rfl) (fun _ _ _ h => h) (sure_value (v := .bool false) (by rfl) (fun v1 h1 => by first | rfl | (go_simp; done) | (go_simp; intro h9; exact absurd h9 (by omega)) | (go_simp; assumption))) (Only.refl _ _) ?_
      simp only [Act.put, List.setIfInBounds_toArray, List.set_cons_zero, List.set_cons_succ]
      refine wpN_take (i := 5) (d := some 41) rfl rfl (by kernel_rfl) (by kernel_rfl) (by kernel_rfl) (fun _ _ _ h => h) (sure_value (v := .bool false) (by rfl) (fun v1 h1 => by first | rfl | (go_simp; done) | (go_simp; intro h9; exact absurd h9 (by omega)) | (go_simp; assumption))) (Only.refl _ _) ?_
      simp only [Act.put, List.setIfInBounds_toArray, List.set_cons_zero, List.set_cons_succ]
      refine wpN_take (i := 6) (d := some 42) rfl rfl (by kernel_rfl) (by kernel_rfl) (by kernel_rfl) (fun _ _ _ h => h) (sure_skip (by rfl)) (Only.refl _ _) ?_
      simp only [Act.put, List.setIfInBounds_toArray, List.set_cons_zero, List.set_cons_succ]
      refine wpN_take (i := 7) (d := some 43) rfl rfl (by kernel_rfl) (by kernel_rfl) (by kernel_rfl) (fun _ _ _ h => h) (sure_skip (by rfl)) (Only.refl _ _) ?_
      simp only [Act.put, List.setIfInBounds_toArray, List.set_cons_zero, List.set_cons_succ]
      refine wpN_take (i := 8) (d := some 44) rfl rfl (by kernel_rfl) (by kernel_rfl) (by kernel_rfl) (fun _ _ _ h => h) (sure_skip (by rfl)) (Only.refl _ _) ?_
      simp only [Act.put, List.setIfInBounds_toArray, List.set_cons_zero, List.set_cons_succ]
      refine wpN_take (i := 9) (d := some 45) rfl rfl (by kernel_rfl) (by kernel_rfl) (by kernel_rfl) (fun _ _ _ h => h) (sure_skip (by rfl)) (Only.refl _ _) ?_
      simp only [Act.put, List.setIfInBounds_toArray, List.set_cons_zero, List.set_cons_succ]
      refine wpN_take (i := 10) (d := some 46) rfl rfl (by kernel_rfl) (by kernel_rfl) (by kernel_rfl) (fun _ _ _ h => h) (sure_skip (by rfl)) (Only.refl _ _) ?_
      simp only [Act.put, List.setIfInBounds_toArray, List.set_cons_zero, List.set_cons_succ]
      refine wpN_take (i := 11) (d := some 47) rfl rfl (by kernel_rfl) (by kernel_rfl) (by kernel_rfl) (fun _ _ _ h => h) (sure_skip (by rfl)) (Only.refl _ _) ?_
      simp only [Act.put, List.setIfInBounds_toArray, List.set_cons_zero, List.set_cons_succ]
      refine wpN_take (i := 12) (d := some 48) rfl rfl (by kernel_rfl) (by kernel_rfl) (by kernel_rfl) (fun _ _ _ h => h) (sure_skip (by rfl)) (Only.refl _ _) ?_
      simp only [Act.put, List.setIfInBounds_toArray, List.set_cons_zero, List.set_cons_succ]
      refine wpN_take (i := 13) (d := some 49) rfl rfl (by kernel_rfl) (by kernel_rfl) (by kernel_rfl) (fun _ _ _ h => h) (sure_skip (by rfl)) (Only.refl _ _) ?_
      simp only [Act.put, List.setIfInBounds_toArray, List.set_cons_zero, List.set_cons_succ]
      refine wpN_take (i := 14) (d := some 50) rfl rfl (by kernel_rfl) (by kernel_rfl) (by kernel_rfl) (fun _ _ _ h => h) (sure_skip (by rfl)) (Only.refl _ _) ?_
      simp only [Act.put, List.setIfInBounds_toArray, List.set_cons_zero, List.set_cons_succ]
      refine wpN_take (i := 15) (d := some 51) rfl rfl (by kernel_rfl) (by kernel_rfl) (by kernel_rfl) (fun _ _ _ h => h) (sure_value (v := .bool false) (by rfl) (fun v1 h1 => by first | rfl | (go_simp; done) | (go_simp; intro h9; exact absurd h9 (by omega)) | (go_simp; assumption))) (Only.refl _ _) ?_
      simp only [Act.put, List.setIfInBounds_toArray, List.set_cons_zero, List.set_cons_succ]
      refine wpN_take (i := 16) (d := some 9) rfl rfl (by kernel_rfl) (by kernel_rfl) (by kernel_rfl) (fun _ _ _ h => h) (sure_value (v := .bool false) (by rfl) (fun v1 h1 => by first | rfl | (go_simp; done) | (go_simp; intro h9; exact absurd h9 (by omega)) | (go_simp; assumption))) (Only.refl _ _) ?_
      simp only [Act.put, List.setIfInBounds_toArray, List.set_cons_zero, List.set_cons_succ]
      refine wpN_done (by kernel_rfl) (fun wq ho => ?_) _
      replace ON := Lib.hid (ON.out.tr (Only.undrew ho))
      replace B1 := Lib.hid (B1.out.only (Only.undrew ho) (fun h => h))
      replace B2 := Lib.hid (B2.out.only (Only.undrew ho) (fun h => h))
      replace B3 := Lib.hid (B3.out.only (Only.undrew ho) (fun h => h))
      replace E0 := Lib.hid (E0.out.noth (Only.undrew ho))
      replace O0 := Lib.hid (O0.out.tr (Only.undrew ho))
      clear ho
      obtain ⟨hno, HP⟩ := HN.out
      have HNO := Lib.hid hno
      clear hno
      go_wp2_with fail
      refine wp_region_N Noth (by kernel_rfl) ?_
      refine wpN_take (i := 0) (d := some 54) rfl rfl (by kernel_rfl) (by kernel_rfl) (by kernel_rfl) (fun _ _ _ h => h) (sure_value (v := .bool false) (by rfl) (fun v1 h1 => by first | rfl | (go_simp; done) | (go_simp; intro h9; exact absurd h9 (by omega)) | (go_simp; assumption))) (Only.refl _ _) ?_
      simp only [Act.put, List.setIfInBounds_toArray, List.set_cons_zero, List.set_cons_succ]
      refine wpN_take (i := 1) (d := some 55) rfl rfl (by kernel_rfl) (by kernel_rfl) (by kernel_rfl) (fun _ _ _ h => h) (sure_value (v := .bool false) (by rfl) (fun v1 h1 => by first | rfl | (go_simp; done) | (go_simp; intro h9; exact absurd h9 (by omega)) | (go_simp; assumption))) (Only.refl _ _) ?_
      simp only [Act.put, List.setIfInBounds_toArray, List.set_cons_zero, List.set_cons_succ]
      refine wpN_take (i := 2) (d := some 56) rfl rfl (by kernel_rfl) (by kernel_rfl) (by kernel_rfl) (fun _ _ _ h => h) (sure_skip (by rfl)) (Only.refl _ _) ?_
      simp only [Act.put, List.setIfInBounds_toArray, List.set_cons_zero, List.set_cons_succ]
      refine wpN_take (i := 3) (d := some 57) rfl rfl (by kernel_rfl) (by kernel_rfl) (by kernel_rfl) (fun _ _ _ h => h) (sure_skip (by rfl)) (Only.refl _ _) ?_
      simp only [Act.put, List.setIfInBounds_toArray, List.set_cons_zero, List.set_cons_succ]
      refine wpN_take (i := 4) (d := some 58) rfl rfl (by kernel_rfl) (by kernel_rfl) (by kernel_rfl) (fun _ _ _ h => h) (sure_skip (by rfl)) (Only.refl _ _) ?_
      simp only [Act.put, List.setIfInBounds_toArray, List.set_cons_zero, List.set_cons_succ]
      refine wpN_take (i := 5) (d := some 59) rfl rfl (by kernel_rfl) (by kernel_rfl) (by kernel_rfl) (fun _ _ _ h => h) (sure_skip (by rfl)) (Only.refl _ _) ?_
      simp only [Act.put, List.setIfInBounds_toArray, List.set_cons_zero, List.set_cons_succ]
      refine wpN_take (i := 6) (d := some 60) rfl rfl (by kernel_rfl) (by kernel_rfl) (by kernel_rfl) (fun _ _ _ h => h) (sure_skip (by rfl)) (Only.refl _ _) ?_
      simp only [Act.put, List.setIfInBounds_toArray, List.set_cons_zero, List.set_cons_succ]
      refine wpN_take (i := 7) (d := some 61) rfl rfl (by kernel_rfl) (by kernel_rfl) (by kernel_rfl) (fun _ _ _ h => h) (sure_skip (by rfl)) (Only.refl _ _) ?_
      simp only [Act.put, List.setIfInBounds_toArray, List.set_cons_zero, List.set_cons_succ]
      refine wpN_take (i := 8) (d := some 62) rfl rfl (by kernel_rfl) (by kernel_rfl) (by kernel_rfl) (fun _ _ _ h => h) (sure_skip (by rfl)) (Only.refl _ _) ?_
      simp only [Act.put, List.setIfInBounds_toArray, List.set_cons_zero, List.set_cons_succ]
      refine wpN_take (i := 9) (d := some 63) rfl rfl (by kernel_rfl) (by kernel_rfl) (by kernel_rfl) (fun _ _ _ h => h) (sure_skip (by rfl)) (Only.refl _ _) ?_
      simp only [Act.put, List.setIfInBounds_toArray, List.set_cons_zero, List.set_cons_succ]
      refine wpN_take (i := 10) (d := some 64) rfl rfl (by kernel_rfl) (by kernel_rfl) (by kernel_rfl) (fun _ _ _ h => h) (sure_value (v := .bool false) (by rfl) (fun v1 h1 => by first | rfl | (go_simp; done) | (go_simp; intro h9; exact absurd h9 (by omega)) | (go_simp; assumption))) (Only.refl _ _) ?_
      simp only [Act.put, List.setIfInBounds_toArray, List.set_cons_zero, List.set_cons_succ]
      refine wpN_take (i := 11) (d := some 53) rfl rfl (by kernel_rfl) (by kernel_rfl) (by kernel_rfl) (fun _ _ _ h => h) (sure_value (v := .bool false) (by rfl) (fun v1 h1 => by first | rfl | (go_simp; done) | (go_simp; intro h9; exact absurd h9 (by omega)) | (go_simp; assumption))) (Only.refl _ _) ?_
      simp only [Act.put, List.setIfInBounds_toArray, List.set_cons_zero, List.set_cons_succ]
      refine wpN_done (by kernel_rfl) (fun w8 ho => ?_) _
      replace ON := Lib.hid (ON.out.tr (Only.undrew ho))
      replace B1 := Lib.hid (B1.out.only (Only.undrew ho) (fun h => h))
      replace B2 := Lib.hid (B2.out.only (Only.undrew ho) (fun h => h))
      replace B3 := Lib.hid (B3.out.only (Only.undrew ho) (fun h => h))
      replace E0 := Lib.hid (E0.out.noth (Only.undrew ho))
      replace O0 := Lib.hid (O0.out.tr (Only.undrew ho))
      clear ho
      have m0 : _ = some (Value.slice A L.length c) := B1.out.cell 0
      by_cases hfull : (256 : Int) ≤ L.length
      · skip
        have HC := Lib.hid (cstep_full H0.out HNO.out (by omega))
        have m0 : _ = some (Value.slice A L.length c) := B1.out.cell 0
        go_wp2_with (refine wpList_store_whole rfl rfl 28 (.tmp 4) (.tmp 75) rfl (w.heap.size + 1 + 1) rfl #[.slice A L.length c] rfl 28 _ B3.out rfl (by simp [Value.oneCell']) (by kernel_rfl) ?_; intro w9 hb9 ho9 _; have y0 := hb9.cell 0; have E9 := Lib.hid (HE.out.old E0.out ho9 (by omega)); have O9 := Lib.hid (O0.out.trans ho9 (fun j hj hl => by have hj : j = w.heap.size + 1 + 1 := hj; omega)); clear hb9 ho9)
        refine bodyPost_ret (v := .tuple #[.agg #[.slice A L.length c], .bool (cstep L e).2.1, .int .i64 (cstep L e).2.2]) (by rw [HC.out]; simp [results, Try.results15, go_sem, *]) rfl ?_
        rw [HC.out]
        exact ⟨⟨_, c, L, rfl, rfl, E9.out⟩, O9.out⟩
      · go_wp2_with fail
        obtain ⟨A1, hr1, he1⟩ := ents_to (L.length) E0.out (by omega)
        obtain ⟨A2, c2, hr2, he2⟩ := ents_from (L.length) E0.out (by omega)
        have hpl : (L.take (L.length)).length ≤ L.length := by rw [List.length_take]; omega
        have hdl : (L.drop (L.length)).length ≤ L.length := by rw [List.length_drop]; omega
        obtain ⟨PL, hPL⟩ : ∃ PL, L.take (L.length) = PL := ⟨_, rfl⟩
        obtain ⟨DL, hDL⟩ : ∃ DL, L.drop (L.length) = DL := ⟨_, rfl⟩
        rw [hPL] at hr1 he1 hpl HP
        rw [hDL] at hr2 he2 hdl HP
        have E1 := Lib.hid he1
        have E2 := Lib.hid he2
        have HR1 := Lib.hid hr1
        have HR2 := Lib.hid (show ∀ V : World, (Instr.slice 22 (.slice A L.length c) (some (.int .i64 (L.length : Int))) none none).run Try.prog V = .ok (.slice A2 DL.length c2) V from by simpa using hr2)
        have HPP := Lib.hid HP
        clear he1 he2 hr1 hr2 hPL hDL HP
        go_wp2_with fail
        refine wp_region_N Noth (by kernel_rfl) ?_
        refine wpN_take (i := 0) (d := some 76) rfl rfl (by kernel_rfl) (by kernel_rfl) (by kernel_rfl) (fun _ _ _ h => h) (sure_value (v := .slice none 0 0) (by rfl) (fun v1 h1 => by first | rfl | (go_simp; done) | (go_simp; intro h9; exact absurd h9 (by omega)) | (go_simp; assumption))) (Only.refl _ _) ?_
        simp only [Act.put, List.setIfInBounds_toArray, List.set_cons_zero, List.set_cons_succ]
        refine wpN_take (i := 1) (d := some 77) rfl rfl (by kernel_rfl) (by kernel_rfl) (by kernel_rfl) (fun _ _ _ h => h) (sure_value (v := .pointer (some ⟨w.heap.size, 0, none⟩)) (by rfl) (fun v1 h1 => by first | rfl | (go_simp; done) | (go_simp; intro h9; exact absurd h9 (by omega)) | (go_simp; assumption))) (Only.refl _ _) ?_
        simp only [Act.put, List.setIfInBounds_toArray, List.set_cons_zero, List.set_cons_succ]
        refine wpN_take (i := 2) (d := some 78) rfl rfl (by kernel_rfl) (by kernel_rfl) (by kernel_rfl) (fun _ _ _ h => h) (sure_lit (v := .slice A L.length c) (i := 0) B1.out.drew rfl (fun h => h) (by rfl) (fun _ h => by go_simp)) (Only.refl _ _) ?_
        simp only [Act.put, List.setIfInBounds_toArray, List.set_cons_zero, List.set_cons_succ]
        refine wpN_take (i := 3) (d := some 79) rfl rfl (by kernel_rfl) (by kernel_rfl) (by kernel_rfl) (fun _ _ _ h => h) (sure_value (v := .int .i64 (L.length : Int)) (by rfl) (fun v1 h1 => by first | rfl | (go_simp; done) | (go_simp; intro h9; exact absurd h9 (by omega)) | (go_simp; assumption))) (Only.refl _ _) ?_
        simp only [Act.put, List.setIfInBounds_toArray, List.set_cons_zero, List.set_cons_succ]
        refine wpN_take (i := 4) (d := some 80) rfl rfl (by kernel_rfl) (by kernel_rfl) (by kernel_rfl) (fun _ _ _ h => h) (sure_slice HR1.out (by kernel_rfl) (by rfl) rfl rfl rfl rfl) (Only.refl _ _) ?_
        simp only [Act.put, List.setIfInBounds_toArray, List.set_cons_zero, List.set_cons_succ]
        refine wpN_take (i := 6) (d := some 82) rfl rfl (by kernel_rfl) (by kernel_rfl) (by kernel_rfl) (fun _ _ _ h => h) (sure_at (EntCell.box B2.out).drew (fun h => h) (by rfl) rfl rfl) (Only.refl _ _) ?_
        simp only [Act.put, List.setIfInBounds_toArray, List.set_cons_zero, List.set_cons_succ]
        refine wpN_run2 (i := 5) (j := 7) (d := some 81) (d' := some 83) (RowV w8.drew PL) (OneV w8.drew e) (fun _ _ _ h ho => h.noth ho) (fun _ _ _ h ho => h.noth ho) (by kernel_rfl) (by kernel_rfl) (by kernel_rfl) (by decide) rfl rfl rfl rfl rfl rfl (by simp) (Only.refl _ _) (fun u w2 h2 => ?_) (fun u w2 h2 => ?_) ?_
        · obtain ⟨B, d, w3, hrun, hrow, ho⟩ := app_ents_run w2 w2 22 (ERow.empty w2 w2 none) (E1.out.noth (Only.undrew h2)) (by simp only [List.length_nil]; omega) (Only.refl _ _)
          simp only [List.nil_append] at hrun hrow
          exact ⟨_, w3, app_op rfl rfl rfl hrun, app_op rfl rfl rfl hrun, ⟨B, d, rfl, hrow.up h2.size⟩, ho.mono (fun j hj hl => by have hj : w2.heap.size ≤ j := hj; omega)⟩
        · exact ⟨.slice (some ⟨w2.heap.size, 0, none⟩) 1 1, w2.alloc (.cells e.arr 34), by go_simp, by go_simp, ⟨w2.heap.size, h2.size, rfl, ents_one (Hld.new w2 34 e.arr)⟩, (Only.refl _ _).alloc _⟩
        rintro v u w2 ⟨B, d, rfl, hrow⟩ ⟨p, _, rfl, hone⟩ ho2
        have ER := Lib.hid hrow
        have EO := Lib.hid hone
        have OB := Lib.hid ho2
        clear hrow hone ho2
        simp only [Act.put, List.setIfInBounds_toArray, List.set_cons_zero, List.set_cons_succ]
        refine wpN_run1 (i := 8) (d := some 84) (RowV w8.drew (PL ++ [e])) (by kernel_rfl) rfl rfl (by rfl) (fun w3 h3 => ?_) ?_
        · obtain ⟨B9, d9, w4, hrun, hrow, ho⟩ := app_ents_run w8.drew w3 22 (ER.out.noth h3) (EO.out.noth h3) (by simp only [List.length_cons, List.length_nil]; omega) (OB.out.tr h3)
          exact ⟨_, w4, app_op rfl rfl rfl hrun, ⟨B9, d9, rfl, hrow⟩, (OB.out.tr h3).trans ho (fun j hj hl => by have hj : w8.drew.heap.size ≤ j := hj; have hl : j < w8.drew.heap.size := hl; omega)⟩
        rintro v w3 ⟨B9, d9, rfl, hrow⟩ ho3
        refine wpN_rebase ho3 ?_
        have ER9 := Lib.hid hrow
        have OB9 := Lib.hid ho3
        clear hrow ho3 ER EO OB
        simp only [Act.put, List.setIfInBounds_toArray, List.set_cons_zero, List.set_cons_succ]
        refine wpN_take (i := 9) (d := some 11) rfl rfl (by kernel_rfl) (by kernel_rfl) (by kernel_rfl) (fun _ _ _ h => h) (sure_value (v := .slice B9 (PL ++ [e]).length d9) (by rfl) (fun v1 h1 => by first | rfl | (go_simp; done) | (go_simp; intro h9; exact absurd h9 (by omega)) | (go_simp; assumption))) (Only.refl _ _) ?_
        simp only [Act.put, List.setIfInBounds_toArray, List.set_cons_zero, List.set_cons_succ]
        refine wpN_done (by kernel_rfl) (fun w10 ho => ?_) _
        have ER10 := Lib.hid ((ER9.out.noth ho).up (w0 := w1) ON.out.size)
        replace ho := OB9.out.tr ho
        replace E2 := Lib.hid (E2.out.noth (Only.undrew ho))
        clear ER9 OB9 E1 HR1
        replace ON := Lib.hid (ON.out.tr (Only.undrew ho))
        replace B1 := Lib.hid (B1.out.only (Only.undrew ho) (fun h => h))
        replace B2 := Lib.hid (B2.out.only (Only.undrew ho) (fun h => h))
        replace B3 := Lib.hid (B3.out.only (Only.undrew ho) (fun h => h))
        replace E0 := Lib.hid (E0.out.noth (Only.undrew ho))
        replace O0 := Lib.hid (O0.out.tr (Only.undrew ho))
        clear ho
        have hr2 := HR2.out
        have m0 : _ = some (Value.slice A L.length c) := B1.out.cell 0
        have HC := Lib.hid (cstep_new H0.out HNO.out (by omega))
        have hlen1 : (PL ++ [e]).length = PL.length + 1 := by simp
        go_wp2_with (first | (at_builtin; refine wpList_app_ents w1 _ rfl (.tmp 85) (.tmp 89) rfl (l := PL ++ [e]) (m := DL) rfl ER10.out rfl E2.out (by omega) ON.out ?_; intro B11 d11 M11 w11 hM hr ho; have EF := Lib.hid hr; have HM := Lib.hid hM; replace B3 := Lib.hid (BX.out.only ho (fun h => h)); replace O0 := Lib.hid (OX.out.tr ho); clear hM hr ho) | (refine wpList_store_whole rfl rfl 28 (.tmp 4) (.tmp 91) rfl (w.heap.size + 1 + 1) rfl #[.slice B11 M11.length d11] rfl 28 _ B3.out rfl (by simp [Value.oneCell']) (by kernel_rfl) ?_; intro w9 hb9 ho9 _; have y0 := hb9.cell 0; have E9 := Lib.hid (show ERow w1 w9 B11 d11 M11 from Row.only EF.out ho9 (fun k hk hkp => by have hk : w1.heap.size ≤ k := hk; have hkp : k = w.heap.size + 1 + 1 := hkp; omega)); have O9 := Lib.hid (O0.out.trans ho9 (fun j hj hl => by have hj : j = w.heap.size + 1 + 1 := hj; omega)); clear hb9 ho9))
        refine bodyPost_ret (v := .tuple #[.agg #[.slice B11 M11.length d11], .bool (cstep L e).2.1, .int .i64 (cstep L e).2.2]) (by rw [HC.out]; simp [results, Try.results15, go_sem, *]) rfl ?_
        rw [HC.out]
        exact ⟨⟨B11, d11, M11, by rw [HM.out, HPP.out]; simp, rfl, ERow.ents E9.out⟩, O9.out⟩
end Go.Proofs.Ytdclkbhkboaafaa
