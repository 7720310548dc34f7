/- Package alert: the store; Put. -/
import Derived.Test.YtokgignmdgejoaaDoorAlA
namespace Go.Proofs.YtokgignmdgejoaaDoor
open Go.RowKit Go.Lib
set_option linter.unusedVariables false
set_option linter.unusedSimpArgs false
set_option maxRecDepth 100000
attribute [local go_sem ↓] Go.wp_at_zero Go.wp_at_succ

theorem lcheck_small {l : List Pr} (h : lcheck l = 0) : l.length ≤ 8 ∧ ∀ p ∈ l, p.name.size ≤ 1000 ∧ p.val.size ≤ 1000 := by
  have hp : lparts l = 0 := by
    unfold lcheck at h
    by_cases e : lparts l ≠ 0
    · rw [if_pos e] at h; exact h
    · exact Decidable.not_not.1 e
  unfold lparts at hp
  split at hp
  · cases hp
  · rename_i h1
    split at hp
    · cases hp
    · rename_i h2
      simp only [Bool.or_eq_true, not_or, decide_eq_true_eq, Bool.not_eq_true] at h1 h2
      refine ⟨by omega, fun p hm => ?_⟩
      have a1 := (List.any_eq_false.1 h1.2) p hm
      have a2 := (List.any_eq_false.1 h2) p hm
      unfold Pr.long at a1
      unfold Pr.bad at a2
      simp only [decide_eq_true_eq, Bool.or_eq_true, not_or, Bool.not_eq_true', Bool.not_eq_false] at a1 a2
      have a3 := a2.2
      unfold lname at a3
      simp only [Bool.and_eq_true, decide_eq_true_eq] at a3
      have e1 : p.nb.length = p.name.size := rfl
      have := a3.1.1.1
      omega
theorem lkey_size {l : List Pr} (h : lcheck l = 0) : (ByteArray.mk (lkey l).toArray).size ≤ 9223372036854775807 := by
  obtain ⟨h1, h2⟩ := lcheck_small h
  have h3 := tx_small h2
  have e : lkey l = tList (l.flatMap Pr.tx) := rfl
  have e2 : (ByteArray.mk (lkey l).toArray).size = (lkey l).length := by show (lkey l).toArray.size = _; simp
  rw [e2, e]
  unfold tList
  simp
  simp at h3
  omega
/-- A store of alerts. -/
structure AlAt (w : World) (g b : Nat) (L : List Al) : Prop where
  box : Hld w g 61 #[.map (some b)]
  own : MapIs w b L
  srt : Srt L
  len : L.length ≤ 64
  labs : ∀ e ∈ L, PsAt w (fun k => k = e.blk) (some ⟨e.blk, 0, none⟩) e.cap e.ls ∧ e.blk ≠ g ∧ e.blk ≠ b
  ok : ∀ e ∈ L, lcheck e.ls = 0 ∧ 1 ≤ e.ls.length ∧ e.key = ⟨(lkey e.ls).toArray⟩
theorem AlAt.ne {w : World} {g b : Nat} {L : List Al} (h : AlAt w g b L) : g ≠ b := fun e => by
  have h1 := h.box
  obtain ⟨es, clock, h2, _⟩ := h.own
  subst e
  unfold Hld at h1
  rw [h1] at h2
  cases h2
theorem AlAt.noth {w w' : World} {g b : Nat} {L : List Al} (h : AlAt w g b L) (ho : Only Noth w w') : AlAt w' g b L :=
  ⟨h.box.only ho (fun h => h), h.own.only ho (fun h => h), h.srt, h.len, fun e he => ⟨(h.labs e he).1.noth ho, (h.labs e he).2⟩, h.ok⟩
def acheck (l : List Pr) (st en : Int) : Int := if lcheck l ≠ 0 then lcheck l else if l.length = 0 then 6 else if st < 0 ∨ en ≤ st ∨ 1099511627776 < en then 13 else 0
def aerr (L : List Al) (l : List Pr) (st en : Int) : Int := if acheck l st en ≠ 0 then acheck l st en else if (cget (lkey l) L).isSome = false ∧ 64 ≤ L.length then 11 else 0
def ast (L : List Al) (l : List Pr) (st en : Int) : Int := match cget (lkey l) L with
  | some o => if st ≤ o.en ∧ o.st ≤ en then (if st ≤ o.st then st else o.st) else st
  | none => st
/-- What Put leaves. -/
def APut (g b : Nat) (L : List Al) (l : List Pr) (st en : Int) (w : World) (e : Ending) (w' : World) : Prop :=
  e = .returned (.int .i64 (aerr L l st en)) ∧ (∃ L', AlAt w' g b L' ∧ (aerr L l st en ≠ 0 → L' = L) ∧ (aerr L l st en = 0 → ∃ blk cap, L' = cput ⟨⟨(lkey l).toArray⟩, l, blk, cap, ast L l st en, en⟩ L ∧ w.heap.size ≤ blk)) ∧ Only (fun k => k = b) w w'
theorem aput_no {g b : Nat} {L : List Al} {l : List Pr} {st en er : Int} {w w' : World} (h : AlAt w' g b L) (ho : Only Noth w w') (he : aerr L l st en = er) (hne : er ≠ 0) : APut g b L l st en w (.returned (.int .i64 er)) w' :=
  ⟨by rw [he], ⟨L, h, fun _ => rfl, fun e => absurd (he.symm.trans e) hne⟩, ho.mono (fun _ h _ => h.elim)⟩
theorem aput_yes {g b : Nat} {L : List Al} {l : List Pr} {st en : Int} {w w5 : World} (h : AlAt w5 g b L) (ho : Only Noth w w5) (he : aerr L l st en = 0) (hl : lcheck l = 0) (h1 : 1 ≤ l.length) (b2 c2 : Nat) (s' : Int) (w7 w9 : World) (hs : s' = ast L l st en) (h57 : Only Noth w5 w7) (h79 : Only (fun k => k = b) w7 w9)
    (hm : MapIs w9 b (cput ⟨⟨(lkey l).toArray⟩, l, b2, c2, s', en⟩ L)) (hp : PsAt w7 (fun k => k = b2) (some ⟨b2, 0, none⟩) c2 l) (hb2 : w5.heap.size ≤ b2) (hb2l : b2 < w7.heap.size) : APut g b L l st en w (.returned (.int .i64 0)) w9 := by
  have hb := h.own.lt
  have hg := h.box.lt
  have hk : (⟨⟨(lkey l).toArray⟩, l, b2, c2, s', en⟩ : Al).kb = lkey l := by unfold Al.kb; simp
  refine ⟨by rw [he], ⟨_, ⟨(h.box.only h57 (fun h => h)).only h79 h.ne, hm, cput_srt h.srt, ?_, fun e hme => ?_, fun e hme => ?_⟩, fun hne => absurd he hne, fun _ => ⟨b2, c2, by rw [hs], by have := ho.size; omega⟩⟩, (ho.tr h57).mono (G := fun k => k = b) (fun _ h _ => h.elim) |>.trans h79 (fun _ h _ => h)⟩
  · rw [cput_len h.srt, hk]
    split
    · exact h.len
    · rename_i hn
      unfold aerr at he
      split at he
      · rename_i h8; exact absurd he h8
      · split at he
        · cases he
        · rename_i h9
          have : (cget (lkey l) L).isSome = false := by simpa using hn
          have : ¬ 64 ≤ L.length := fun h8 => h9 ⟨this, h8⟩
          omega
  · rcases cput_mem.1 hme with rfl | ⟨hL, _⟩
    · exact ⟨hp.only h79 (fun j hj e => by have hj : j = b2 := hj; have e : j = b := e; omega), show b2 ≠ g by omega, show b2 ≠ b by omega⟩
    · obtain ⟨k1, k2, k3⟩ := h.labs e hL
      exact ⟨(k1.noth h57).only h79 (fun j hj e2 => by have hj : j = e.blk := hj; have e2 : j = b := e2; exact k3 (hj.symm.trans e2)), k2, k3⟩
  · rcases cput_mem.1 hme with rfl | ⟨hL, _⟩
    · exact ⟨hl, h1, rfl⟩
    · exact h.ok e hL
set_option maxHeartbeats 16000000 in
theorem aput_run (g b : Nat) (L : List Al) (l : List Pr) (st en : Int) (A : Option Addr) (c : Nat) (S : Nat → Prop) (w : World) (h : AlAt w g b L) (hp : PsAt w S A c l) (ht : Tab w) :
    Calls Tryd.prog 11 #[.pointer (some ⟨g, 0, none⟩), .agg #[.slice A l.length c, .int .i64 st, .int .i64 en]] w (APut g b L l st en w) := by
  have HP := Lib.hid hp
  have M0 := Lib.hid h
  have TB := Lib.hid ht
  have hln0 : (0 : Int) ≤ l.length := by omega
  obtain ⟨W0, hW0⟩ : ∃ W, w.alloc (.cells #[.slice A l.length c, .int .i64 st, .int .i64 en] 27) = W := ⟨_, rfl⟩
  have B0 := Lib.hid (show Hld W0 w.heap.size 27 #[.slice A l.length c, .int .i64 st, .int .i64 en] by rw [← hW0]; exact Hld.new w _ _)
  have O0 := Lib.hid (show Only Noth w W0 by rw [← hW0]; exact (Only.refl Noth w).alloc _)
  have m0 := B0.out.cell 0
  clear h hp ht
  go_enter Tryd.func11, Tryd.ntmps11
  go_wp2_with fail
  refine (check_run S A c l.length l rfl W0 (HP.out.noth O0.out)).mono ?_
  rintro e w1 ⟨rfl, ho⟩
  have O1 := Lib.hid (O0.out.tr ho)
  have B1 := Lib.hid (B0.out.only ho (fun h => h))
  have M1 := Lib.hid (M0.out.noth O1.out)
  clear ho m0 hW0
  by_cases hc0 : lcheck l ≠ 0
  · have HA := Lib.hid (show aerr L l st en = lcheck l by
      have : acheck l st en = lcheck l := by unfold acheck; rw [if_pos hc0]
      unfold aerr; rw [this, if_pos hc0])
    go_wp2
    go_ret
    exact aput_no M1.out O1.out HA.out hc0
  have hc1 : lcheck l = 0 := Decidable.not_not.1 hc0
  have HC1 := Lib.hid hc1
  rw [hc1]
  clear hc0 hc1
  have m0 := B1.out.cell 0
  by_cases hl0 : (l.length : Int) = 0
  · have HA := Lib.hid (show aerr L l st en = 6 by
      have : acheck l st en = 6 := by unfold acheck; rw [if_neg (by rw [HC1.out]; decide), if_pos (by omega)]
      unfold aerr; rw [this]; rfl)
    go_wp2
    go_ret
    exact aput_no M1.out O1.out HA.out (by decide)
  have m1 := B1.out.cell 1
  have m2 := B1.out.cell 2
  have hbad : st < 0 ∨ en ≤ st ∨ 1099511627776 < en → aerr L l st en = 13 := fun hb => by
    have : acheck l st en = 13 := by unfold acheck; rw [if_neg (by rw [HC1.out]; decide), if_neg (by omega), if_pos hb]
    unfold aerr; rw [this]; rfl
  have HBAD := Lib.hid hbad
  clear hbad
  by_cases a1 : st < 0
  · go_wp2
    go_ret
    exact aput_no M1.out O1.out (HBAD.out (.inl a1)) (by decide)
  by_cases a2 : en ≤ st
  · go_wp2
    go_ret
    exact aput_no M1.out O1.out (HBAD.out (.inr (.inl a2))) (by decide)
  by_cases a3 : en > 1099511627776
  · go_wp2
    go_ret
    exact aput_no M1.out O1.out (HBAD.out (.inr (.inr a3))) (by decide)
  have HAC := Lib.hid (show acheck l st en = 0 by unfold acheck; rw [if_neg (by rw [HC1.out]; decide), if_neg (by omega), if_neg (by omega)])
  clear HBAD
  go_wp2_with fail
  refine (key_run S A c l.length l rfl (lcheck_small HC1.out).1 (lcheck_small HC1.out).2 w1 (HP.out.noth O1.out) (TB.out.noth O1.out)).mono ?_
  rintro e w2 ⟨rfl, ho⟩
  have O2 := Lib.hid (O1.out.tr ho)
  have B2 := Lib.hid (B1.out.only ho (fun h => h))
  have M2 := Lib.hid (M0.out.noth O2.out)
  obtain ⟨K, hK⟩ : ∃ K, ByteArray.mk (lkey l).toArray = K := ⟨_, rfl⟩
  have HKE := Lib.hid hK
  have HK := Lib.hid (show K.size ≤ 9223372036854775807 by rw [← hK]; exact lkey_size HC1.out)
  have HKB := Lib.hid (show K.data.toList = lkey l by rw [← hK])
  rw [hK]
  clear ho hK m0 m1 m2
  have gc := M2.out.box.cell 0
  have hlk := look_ok_run M2.out.own K HK.out
  rw [show look K L = (match cget (lkey l) L with | some e => e.arr | none => zeroArr) by unfold look; rw [HKB.out]; cases cget (lkey l) L <;> rfl, HKB.out] at hlk
  have NE := Lib.hid (show ¬ (w.heap.size = b) from fun e => by have := M0.out.own.lt; omega)
  have NG := Lib.hid (show w2.heap.size ≠ w.heap.size from fun e => by have := B2.out.lt; omega)
  have hl1 : 1 ≤ l.length := by omega
  have hln8 : l.length ≤ 8 := (lcheck_small HC1.out).1
  have hLL := M0.out.len
  have hLi : (L.length : Int) ≤ 64 := by omega
  have hL0 : (0 : Int) ≤ L.length := by omega
  have HF := Lib.hid (show ∀ (S0 : Int) (w5 : World), AlAt w5 g b L → Only Noth w w5 → aerr L l st en = 0 → S0 = ast L l st en → ∀ (b2 c2 : Nat) (s' : Int) (w7 w9 : World), s' = S0 → Only Noth w5 w7 → Only (fun k => k = b) w7 w9 → MapIs w9 b (cput ⟨K, l, b2, c2, s', en⟩ L) → PsAt w7 (fun k => k = b2) (some ⟨b2, 0, none⟩) c2 l → w5.heap.size ≤ b2 → b2 < w7.heap.size → APut g b L l st en w (.returned (.int .i64 0)) w9 from
    fun S0 w5 hm5 ho5 he hs b2 c2 s' w7 w9 hs' h57 h79 hm hp hb2 hb2l => aput_yes hm5 ho5 he HC1.out hl1 b2 c2 s' w7 w9 (hs'.trans hs) h57 h79 (by rw [HKE.out]; exact hm) hp hb2 hb2l)
  cases hg : cget (lkey l) L with
  | none =>
    rw [hg] at hlk
    have HG := Lib.hid hg
    have hlk2 : (Instr.lookup 59 (.map (some b)) (.string K) true).run Tryd.prog w2 = .ok (.tuple #[.agg zeroArr, .bool false]) w2 := hlk
    have HAS := Lib.hid (show st = ast L l st en by unfold ast; rw [hg])
    clear hg hlk
    go_upto_region 12 with (refine wpList_store_whole rfl rfl 27 (.tmp 7) (.tmp 48) rfl w2.heap.size rfl _ rfl 27 _ (Hld.new w2 _ _) rfl (by simp [Value.oneCell']) (by kernel_rfl) ?_; intro w5 gb ho5 hz5; have P5 := Lib.hid gb; have O5 := Lib.hid (show Only Noth w2 w5 from ((Only.refl Noth w2).alloc _).trans ho5 (fun j hj hl => by have hj : j = w2.heap.size := hj; omega)); clear gb ho5 hz5)
    have OA := Lib.hid (O2.out.tr O5.out)
    have B5 := Lib.hid (B2.out.only O5.out (fun h => h))
    have M5 := Lib.hid (M0.out.noth OA.out)
    have mc := M5.out.box.cell 0
    have hlr : (Builtin.len_ #[59] 3 #[.map (some b)]).run Tryd.prog w5 = .ok (.int .i64 L.length) w5 := len_run M5.out.own _
    clear hlk2 gc
    by_cases hfull : (64 : Int) ≤ L.length
    · have HA := Lib.hid (show aerr L l st en = 11 by unfold aerr; rw [HAC.out, HG.out, if_neg (by decide), if_pos ⟨rfl, by omega⟩])
      go_wp2
      go_ret
      exact aput_no M5.out OA.out HA.out (by decide)
    · have HA := Lib.hid (show aerr L l st en = 0 by unfold aerr; rw [HAC.out, HG.out, if_neg (by decide), if_neg (fun h => hfull (by have := h.2; omega))])
      have FIN := Lib.hid (HF.out st w5 M5.out OA.out HA.out HAS.out)
      go_wp2_with fail
      refine wp_region_N (fun k => k = b) (by kernel_rfl) ?_
      refine wpN_take (i := 0) (d := some 83) rfl rfl (by kernel_rfl) (by kernel_rfl) (by kernel_rfl) (fun _ _ _ h => h) (sure_value (v := .pointer (some ⟨g, 0, none⟩)) (by rfl) (fun v1 h1 => by first | rfl | (go_simp; done) | (go_simp; intro h9; exact absurd h9 (by omega)) | (go_simp; assumption))) (Only.refl _ _) ?_
      simp only [Act.put, List.setIfInBounds_toArray, List.set_cons_zero, List.set_cons_succ]
      refine wpN_take (i := 1) (d := some 84) rfl rfl (by kernel_rfl) (by kernel_rfl) (by kernel_rfl) (fun _ _ _ h => h) (sure_value (v := .pointer (some ⟨g, 0, none⟩)) (by rfl) (fun v1 h1 => by first | rfl | (go_simp; done) | (go_simp; intro h9; exact absurd h9 (by omega)) | (go_simp; assumption))) (Only.refl _ _) ?_
      simp only [Act.put, List.setIfInBounds_toArray, List.set_cons_zero, List.set_cons_succ]
      refine wpN_take (i := 2) (d := some 85) rfl rfl (by kernel_rfl) (by kernel_rfl) (by kernel_rfl) (fun _ _ _ h => h) (sure_value (v := .pointer (some ⟨g, 0, none⟩)) (by rfl) (fun v1 h1 => by first | rfl | (go_simp; done) | (go_simp; intro h9; exact absurd h9 (by omega)) | (go_simp; assumption))) (Only.refl _ _) ?_
      simp only [Act.put, List.setIfInBounds_toArray, List.set_cons_zero, List.set_cons_succ]
      refine wpN_take (i := 3) (d := some 86) rfl rfl (by kernel_rfl) (by kernel_rfl) (by kernel_rfl) (fun _ _ _ h => h) (sure_lit (v := .map (some b)) (i := 0) M5.out.box.drew rfl M5.out.ne (by rfl) (fun _ h => by go_simp)) (Only.refl _ _) ?_
      simp only [Act.put, List.setIfInBounds_toArray, List.set_cons_zero, List.set_cons_succ]
      refine wpN_take (i := 4) (d := some 87) rfl rfl (by kernel_rfl) (by kernel_rfl) (by kernel_rfl) (fun _ _ _ h => h) (sure_value (v := .string K) (by rfl) (fun v1 h1 => by first | rfl | (go_simp; done) | (go_simp; intro h9; exact absurd h9 (by omega)) | (go_simp; assumption))) (Only.refl _ _) ?_
      simp only [Act.put, List.setIfInBounds_toArray, List.set_cons_zero, List.set_cons_succ]
      refine wpN_take (i := 5) (d := some 88) rfl rfl (by kernel_rfl) (by kernel_rfl) (by kernel_rfl) (fun _ _ _ h => h) (sure_value (v := .agg #[.slice A l.length c, .int .i64 st, .int .i64 en]) (by rfl) (fun v1 h1 => by have hb := (B5.out.drew.only h1 NE.out); have c0 := hb.cell 0; have c1 := hb.cell 1; have c2 := hb.cell 2; go_simp)) (Only.refl _ _) ?_
      simp only [Act.put, List.setIfInBounds_toArray, List.set_cons_zero, List.set_cons_succ]
      refine wpN_call (i := 6) (d := some 89) (T := fun v w1 w2 => (∃ b2 c2, v = .agg #[.slice (some ⟨b2, 0, none⟩) l.length c2, .int .i64 st, .int .i64 en] ∧ w1.heap.size ≤ b2 ∧ b2 < w2.heap.size ∧ PsAt w2 (fun k => k = b2) (some ⟨b2, 0, none⟩) c2 l) ∧ Only Noth w1 w2) (fun w1 h1 => (own_run A c l.length S l st en rfl (by omega) (by omega) w1 ((HP.out.noth OA.out).noth (Only.undrew h1))).mono ?_) (by kernel_rfl) rfl rfl (by rfl) (fun _ => by go_simp) ?_
      · rintro e w' ⟨⟨b2, c2, rfl, hh⟩, ho⟩
        exact ⟨_, rfl, ⟨⟨b2, c2, rfl, hh⟩, ho⟩, ((only_up _ _ _ (Only.refl _ _) h1).trans ho (fun j hj _ => hj.elim))⟩
      rintro v w6 w7 h6 ⟨⟨b2, c2, rfl, hb2, hb2l, hps⟩, ho7⟩ hS7
      simp only [Act.put, List.setIfInBounds_toArray, List.set_cons_zero, List.set_cons_succ]
      have O57 := Lib.hid (show Only Noth w5 w7 from Only.undrew (h6.tr ho7))
      have Z6 := Lib.hid (show w5.heap.size ≤ w6.heap.size from (Only.undrew h6).size)
      refine wpN_map (i := 7) (b := b) (L := L) (e := ⟨K, l, b2, c2, st, en⟩) (by kernel_rfl) rfl (by rfl) rfl rfl rfl rfl rfl (M5.out.own.only O57.out (fun h => h)) HK.out (by omega) hS7 rfl ?_
      intro w8 hm8 ho8 hS8
      refine wpN_done (by kernel_rfl) (fun w9 ho9 => ?_) _
      have MB := Lib.hid (hm8.only ho9 (fun h => h))
      have OB := Lib.hid (show Only (fun k => k = b) w7 w9 from ho8.trans ho9 (fun j hj _ => hj.elim))
      have PB := Lib.hid hps
      have HB2 := Lib.hid (And.intro hb2 hb2l)
      clear hm8 ho8 hS8 ho9 hps hb2 hb2l ho7 hS7 h6
      go_wp2
      go_ret
      exact FIN.out b2 c2 (st) w7 w9 rfl O57.out OB.out MB.out PB.out (by have := HB2.out.1; have := Z6.out; omega) HB2.out.2
  | some old =>
    rw [hg] at hlk
    have HG := Lib.hid hg
    have hlk2 : (Instr.lookup 59 (.map (some b)) (.string K) true).run Tryd.prog w2 = .ok (.tuple #[.agg old.arr, .bool true]) w2 := hlk
    have HAS := Lib.hid (show ast L l st en = (if st ≤ old.en ∧ old.st ≤ en then (if st ≤ old.st then st else old.st) else st) by unfold ast; rw [hg])
    have HA := Lib.hid (show aerr L l st en = 0 by unfold aerr; rw [HAC.out, hg, if_neg (by decide), if_neg (fun h => by cases h.1)])
    clear hg hlk
    go_upto_region 12 with (refine wpList_store_whole rfl rfl 27 (.tmp 7) (.tmp 48) rfl w2.heap.size rfl _ rfl 27 _ (Hld.new w2 _ _) rfl (by simp [Value.oneCell']) (by kernel_rfl) ?_; intro w5 gb ho5 hz5; have P5 := Lib.hid gb; have O5 := Lib.hid (show Only Noth w2 w5 from ((Only.refl Noth w2).alloc _).trans ho5 (fun j hj hl => by have hj : j = w2.heap.size := hj; omega)); clear gb ho5 hz5)
    have OA := Lib.hid (O2.out.tr O5.out)
    have B5 := Lib.hid (B2.out.only O5.out (fun h => h))
    have M5 := Lib.hid (M0.out.noth OA.out)
    clear hlk2 gc
    have y1 := P5.out.cell 1
    have y2 := P5.out.cell 2
    have b1 := B5.out.cell 1
    have b2 := B5.out.cell 2
    have f1 := B5.out.free 1
    by_cases c1 : st ≤ old.en
    · by_cases c2 : old.st ≤ en
      · obtain ⟨mn, hmn⟩ : ∃ mn, min st old.st = mn := ⟨_, rfl⟩
        have HAS2 := Lib.hid (show mn = ast L l st en by rw [HAS.out, if_pos ⟨c1, c2⟩, ← hmn, Int.min_def])
        go_upto_region 16 with fail
        obtain ⟨w6, hw6⟩ : ∃ W, w5.setCell ⟨w.heap.size, 1, none⟩ (.int .i64 mn) = W := ⟨_, rfl⟩
        rw [hw6]
        have O56 : Only (fun k => k = w.heap.size) w5 w6 := by rw [← hw6]; exact (Only.refl (fun k => k = w.heap.size) w5).setCell (p := ⟨w.heap.size, 1, none⟩) (fun _ => rfl) _
        have OA6 := Lib.hid (show Only Noth w w6 from OA.out.trans O56 (fun j hj hl => by have hj : j = w.heap.size := hj; omega))
        have M6 := Lib.hid (M0.out.noth OA6.out)
        have B6 := Lib.hid (show Hld w6 w.heap.size 27 #[.slice A l.length c, .int .i64 mn, .int .i64 en] by rw [← hw6]; have := B5.out.set_ 1 (.int .i64 mn); simpa using this)
        have FIN := Lib.hid (HF.out mn w6 M6.out OA6.out HA.out HAS2.out)
        clear hmn hw6 O56 y1 y2 b1 b2 f1
        refine wp_region_N (fun k => k = b) (by kernel_rfl) ?_
        refine wpN_take (i := 0) (d := some 83) rfl rfl (by kernel_rfl) (by kernel_rfl) (by kernel_rfl) (fun _ _ _ h => h) (sure_value (v := .pointer (some ⟨g, 0, none⟩)) (by rfl) (fun v1 h1 => by first | rfl | (go_simp; done) | (go_simp; intro h9; exact absurd h9 (by omega)) | (go_simp; assumption))) (Only.refl _ _) ?_
        simp only [Act.put, List.setIfInBounds_toArray, List.set_cons_zero, List.set_cons_succ]
        refine wpN_take (i := 1) (d := some 84) rfl rfl (by kernel_rfl) (by kernel_rfl) (by kernel_rfl) (fun _ _ _ h => h) (sure_value (v := .pointer (some ⟨g, 0, none⟩)) (by rfl) (fun v1 h1 => by first | rfl | (go_simp; done) | (go_simp; intro h9; exact absurd h9 (by omega)) | (go_simp; assumption))) (Only.refl _ _) ?_
        simp only [Act.put, List.setIfInBounds_toArray, List.set_cons_zero, List.set_cons_succ]
        refine wpN_take (i := 2) (d := some 85) rfl rfl (by kernel_rfl) (by kernel_rfl) (by kernel_rfl) (fun _ _ _ h => h) (sure_value (v := .pointer (some ⟨g, 0, none⟩)) (by rfl) (fun v1 h1 => by first | rfl | (go_simp; done) | (go_simp; intro h9; exact absurd h9 (by omega)) | (go_simp; assumption))) (Only.refl _ _) ?_
        simp only [Act.put, List.setIfInBounds_toArray, List.set_cons_zero, List.set_cons_succ]
        refine wpN_take (i := 3) (d := some 86) rfl rfl (by kernel_rfl) (by kernel_rfl) (by kernel_rfl) (fun _ _ _ h => h) (sure_lit (v := .map (some b)) (i := 0) M6.out.box.drew rfl M6.out.ne (by rfl) (fun _ h => by go_simp)) (Only.refl _ _) ?_
        simp only [Act.put, List.setIfInBounds_toArray, List.set_cons_zero, List.set_cons_succ]
        refine wpN_take (i := 4) (d := some 87) rfl rfl (by kernel_rfl) (by kernel_rfl) (by kernel_rfl) (fun _ _ _ h => h) (sure_value (v := .string K) (by rfl) (fun v1 h1 => by first | rfl | (go_simp; done) | (go_simp; intro h9; exact absurd h9 (by omega)) | (go_simp; assumption))) (Only.refl _ _) ?_
        simp only [Act.put, List.setIfInBounds_toArray, List.set_cons_zero, List.set_cons_succ]
        refine wpN_take (i := 5) (d := some 88) rfl rfl (by kernel_rfl) (by kernel_rfl) (by kernel_rfl) (fun _ _ _ h => h) (sure_value (v := .agg #[.slice A l.length c, .int .i64 mn, .int .i64 en]) (by rfl) (fun v1 h1 => by have hb := (B6.out.drew.only h1 NE.out); have c0 := hb.cell 0; have c1 := hb.cell 1; have c2 := hb.cell 2; go_simp)) (Only.refl _ _) ?_
        simp only [Act.put, List.setIfInBounds_toArray, List.set_cons_zero, List.set_cons_succ]
        refine wpN_call (i := 6) (d := some 89) (T := fun v w1 w2 => (∃ b2 c2, v = .agg #[.slice (some ⟨b2, 0, none⟩) l.length c2, .int .i64 mn, .int .i64 en] ∧ w1.heap.size ≤ b2 ∧ b2 < w2.heap.size ∧ PsAt w2 (fun k => k = b2) (some ⟨b2, 0, none⟩) c2 l) ∧ Only Noth w1 w2) (fun w1 h1 => (own_run A c l.length S l mn en rfl (by omega) (by omega) w1 ((HP.out.noth OA6.out).noth (Only.undrew h1))).mono ?_) (by kernel_rfl) rfl rfl (by rfl) (fun _ => by go_simp) ?_
        · rintro e w' ⟨⟨b2, c2, rfl, hh⟩, ho⟩
          exact ⟨_, rfl, ⟨⟨b2, c2, rfl, hh⟩, ho⟩, ((only_up _ _ _ (Only.refl _ _) h1).trans ho (fun j hj _ => hj.elim))⟩
        rintro v wx w7 h6 ⟨⟨b2, c2, rfl, hb2, hb2l, hps⟩, ho7⟩ hS7
        simp only [Act.put, List.setIfInBounds_toArray, List.set_cons_zero, List.set_cons_succ]
        have O57 := Lib.hid (show Only Noth w6 w7 from Only.undrew (h6.tr ho7))
        have Z6 := Lib.hid (show w6.heap.size ≤ wx.heap.size from (Only.undrew h6).size)
        refine wpN_map (i := 7) (b := b) (L := L) (e := ⟨K, l, b2, c2, mn, en⟩) (by kernel_rfl) rfl (by rfl) rfl rfl rfl rfl rfl (M6.out.own.only O57.out (fun h => h)) HK.out (by omega) hS7 rfl ?_
        intro w8 hm8 ho8 hS8
        refine wpN_done (by kernel_rfl) (fun w9 ho9 => ?_) _
        have MB := Lib.hid (hm8.only ho9 (fun h => h))
        have OB := Lib.hid (show Only (fun k => k = b) w7 w9 from ho8.trans ho9 (fun j hj _ => hj.elim))
        have PB := Lib.hid hps
        have HB2 := Lib.hid (And.intro hb2 hb2l)
        clear hm8 ho8 hS8 ho9 hps hb2 hb2l ho7 hS7 h6
        go_wp2
        go_ret
        exact FIN.out b2 c2 (mn) w7 w9 rfl O57.out OB.out MB.out PB.out (by have := HB2.out.1; have := Z6.out; omega) HB2.out.2
      · have HAS2 := Lib.hid (show st = ast L l st en by rw [HAS.out, if_neg (fun h => c2 h.2)])
        have FIN := Lib.hid (HF.out st w5 M5.out OA.out HA.out HAS2.out)
        go_wp2_with fail
        refine wp_region_N (fun k => k = b) (by kernel_rfl) ?_
        refine wpN_take (i := 0) (d := some 83) rfl rfl (by kernel_rfl) (by kernel_rfl) (by kernel_rfl) (fun _ _ _ h => h) (sure_value (v := .pointer (some ⟨g, 0, none⟩)) (by rfl) (fun v1 h1 => by first | rfl | (go_simp; done) | (go_simp; intro h9; exact absurd h9 (by omega)) | (go_simp; assumption))) (Only.refl _ _) ?_
        simp only [Act.put, List.setIfInBounds_toArray, List.set_cons_zero, List.set_cons_succ]
        refine wpN_take (i := 1) (d := some 84) rfl rfl (by kernel_rfl) (by kernel_rfl) (by kernel_rfl) (fun _ _ _ h => h) (sure_value (v := .pointer (some ⟨g, 0, none⟩)) (by rfl) (fun v1 h1 => by first | rfl | (go_simp; done) | (go_simp; intro h9; exact absurd h9 (by omega)) | (go_simp; assumption))) (Only.refl _ _) ?_
        simp only [Act.put, List.setIfInBounds_toArray, List.set_cons_zero, List.set_cons_succ]
        refine wpN_take (i := 2) (d := some 85) rfl rfl (by kernel_rfl) (by kernel_rfl) (by kernel_rfl) (fun _ _ _ h => h) (sure_value (v := .pointer (some ⟨g, 0, none⟩)) (by rfl) (fun v1 h1 => by first | rfl | (go_simp; done) | (go_simp; intro h9; exact absurd h9 (by omega)) | (go_simp; assumption))) (Only.refl _ _) ?_
        simp only [Act.put, List.setIfInBounds_toArray, List.set_cons_zero, List.set_cons_succ]
        refine wpN_take (i := 3) (d := some 86) rfl rfl (by kernel_rfl) (by kernel_rfl) (by kernel_rfl) (fun _ _ _ h => h) (sure_lit (v := .map (some b)) (i := 0) M5.out.box.drew rfl M5.out.ne (by rfl) (fun _ h => by go_simp)) (Only.refl _ _) ?_
        simp only [Act.put, List.setIfInBounds_toArray, List.set_cons_zero, List.set_cons_succ]
        refine wpN_take (i := 4) (d := some 87) rfl rfl (by kernel_rfl) (by kernel_rfl) (by kernel_rfl) (fun _ _ _ h => h) (sure_value (v := .string K) (by rfl) (fun v1 h1 => by first | rfl | (go_simp; done) | (go_simp; intro h9; exact absurd h9 (by omega)) | (go_simp; assumption))) (Only.refl _ _) ?_
        simp only [Act.put, List.setIfInBounds_toArray, List.set_cons_zero, List.set_cons_succ]
        refine wpN_take (i := 5) (d := some 88) rfl rfl (by kernel_rfl) (by kernel_rfl) (by kernel_rfl) (fun _ _ _ h => h) (sure_value (v := .agg #[.slice A l.length c, .int .i64 st, .int .i64 en]) (by rfl) (fun v1 h1 => by have hb := (B5.out.drew.only h1 NE.out); have c0 := hb.cell 0; have c1 := hb.cell 1; have c2 := hb.cell 2; go_simp)) (Only.refl _ _) ?_
        simp only [Act.put, List.setIfInBounds_toArray, List.set_cons_zero, List.set_cons_succ]
        refine wpN_call (i := 6) (d := some 89) (T := fun v w1 w2 => (∃ b2 c2, v = .agg #[.slice (some ⟨b2, 0, none⟩) l.length c2, .int .i64 st, .int .i64 en] ∧ w1.heap.size ≤ b2 ∧ b2 < w2.heap.size ∧ PsAt w2 (fun k => k = b2) (some ⟨b2, 0, none⟩) c2 l) ∧ Only Noth w1 w2) (fun w1 h1 => (own_run A c l.length S l st en rfl (by omega) (by omega) w1 ((HP.out.noth OA.out).noth (Only.undrew h1))).mono ?_) (by kernel_rfl) rfl rfl (by rfl) (fun _ => by go_simp) ?_
        · rintro e w' ⟨⟨b2, c2, rfl, hh⟩, ho⟩
          exact ⟨_, rfl, ⟨⟨b2, c2, rfl, hh⟩, ho⟩, ((only_up _ _ _ (Only.refl _ _) h1).trans ho (fun j hj _ => hj.elim))⟩
        rintro v w6 w7 h6 ⟨⟨b2, c2, rfl, hb2, hb2l, hps⟩, ho7⟩ hS7
        simp only [Act.put, List.setIfInBounds_toArray, List.set_cons_zero, List.set_cons_succ]
        have O57 := Lib.hid (show Only Noth w5 w7 from Only.undrew (h6.tr ho7))
        have Z6 := Lib.hid (show w5.heap.size ≤ w6.heap.size from (Only.undrew h6).size)
        refine wpN_map (i := 7) (b := b) (L := L) (e := ⟨K, l, b2, c2, st, en⟩) (by kernel_rfl) rfl (by rfl) rfl rfl rfl rfl rfl (M5.out.own.only O57.out (fun h => h)) HK.out (by omega) hS7 rfl ?_
        intro w8 hm8 ho8 hS8
        refine wpN_done (by kernel_rfl) (fun w9 ho9 => ?_) _
        have MB := Lib.hid (hm8.only ho9 (fun h => h))
        have OB := Lib.hid (show Only (fun k => k = b) w7 w9 from ho8.trans ho9 (fun j hj _ => hj.elim))
        have PB := Lib.hid hps
        have HB2 := Lib.hid (And.intro hb2 hb2l)
        clear hm8 ho8 hS8 ho9 hps hb2 hb2l ho7 hS7 h6
        go_wp2
        go_ret
        exact FIN.out b2 c2 (st) w7 w9 rfl O57.out OB.out MB.out PB.out (by have := HB2.out.1; have := Z6.out; omega) HB2.out.2
    · have HAS2 := Lib.hid (show st = ast L l st en by rw [HAS.out, if_neg (fun h => c1 h.1)])
      have FIN := Lib.hid (HF.out st w5 M5.out OA.out HA.out HAS2.out)
      go_wp2_with fail
      refine wp_region_N (fun k => k = b) (by kernel_rfl) ?_
      refine wpN_take (i := 0) (d := some 83) rfl rfl (by kernel_rfl) (by kernel_rfl) (by kernel_rfl) (fun _ _ _ h => h) (sure_value (v := .pointer (some ⟨g, 0, none⟩)) (by rfl) (fun v1 h1 => by first | rfl | (go_simp; done) | (go_simp; intro h9; exact absurd h9 (by omega)) | (go_simp; assumption))) (Only.refl _ _) ?_
      simp only [Act.put, List.setIfInBounds_toArray, List.set_cons_zero, List.set_cons_succ]
      refine wpN_take (i := 1) (d := some 84) rfl rfl (by kernel_rfl) (by kernel_rfl) (by kernel_rfl) (fun _ _ _ h => h) (sure_value (v := .pointer (some ⟨g, 0, none⟩)) (by rfl) (fun v1 h1 => by first | rfl | (go_simp; done) | (go_simp; intro h9; exact absurd h9 (by omega)) | (go_simp; assumption))) (Only.refl _ _) ?_
      simp only [Act.put, List.setIfInBounds_toArray, List.set_cons_zero, List.set_cons_succ]
      refine wpN_take (i := 2) (d := some 85) rfl rfl (by kernel_rfl) (by kernel_rfl) (by kernel_rfl) (fun _ _ _ h => h) (sure_value (v := .pointer (some ⟨g, 0, none⟩)) (by rfl) (fun v1 h1 => by first | rfl | (go_simp; done) | (go_simp; intro h9; exact absurd h9 (by omega)) | (go_simp; assumption))) (Only.refl _ _) ?_
      simp only [Act.put, List.setIfInBounds_toArray, List.set_cons_zero, List.set_cons_succ]
      refine wpN_take (i := 3) (d := some 86) rfl rfl (by kernel_rfl) (by kernel_rfl) (by kernel_rfl) (fun _ _ _ h => h) (sure_lit (v := .map (some b)) (i := 0) M5.out.box.drew rfl M5.out.ne (by rfl) (fun _ h => by go_simp)) (Only.refl _ _) ?_
      simp only [Act.put, List.setIfInBounds_toArray, List.set_cons_zero, List.set_cons_succ]
      refine wpN_take (i := 4) (d := some 87) rfl rfl (by kernel_rfl) (by kernel_rfl) (by kernel_rfl) (fun _ _ _ h => h) (sure_value (v := .string K) (by rfl) (fun v1 h1 => by first | rfl | (go_simp; done) | (go_simp; intro h9; exact absurd h9 (by omega)) | (go_simp; assumption))) (Only.refl _ _) ?_
      simp only [Act.put, List.setIfInBounds_toArray, List.set_cons_zero, List.set_cons_succ]
      refine wpN_take (i := 5) (d := some 88) rfl rfl (by kernel_rfl) (by kernel_rfl) (by kernel_rfl) (fun _ _ _ h => h) (sure_value (v := .agg #[.slice A l.length c, .int .i64 st, .int .i64 en]) (by rfl) (fun v1 h1 => by have hb := (B5.out.drew.only h1 NE.out); have c0 := hb.cell 0; have c1 := hb.cell 1; have c2 := hb.cell 2; go_simp)) (Only.refl _ _) ?_
      simp only [Act.put, List.setIfInBounds_toArray, List.set_cons_zero, List.set_cons_succ]
      refine wpN_call (i := 6) (d := some 89) (T := fun v w1 w2 => (∃ b2 c2, v = .agg #[.slice (some ⟨b2, 0, none⟩) l.length c2, .int .i64 st, .int .i64 en] ∧ w1.heap.size ≤ b2 ∧ b2 < w2.heap.size ∧ PsAt w2 (fun k => k = b2) (some ⟨b2, 0, none⟩) c2 l) ∧ Only Noth w1 w2) (fun w1 h1 => (own_run A c l.length S l st en rfl (by omega) (by omega) w1 ((HP.out.noth OA.out).noth (Only.undrew h1))).mono ?_) (by kernel_rfl) rfl rfl (by rfl) (fun _ => by go_simp) ?_
      · rintro e w' ⟨⟨b2, c2, rfl, hh⟩, ho⟩
        exact ⟨_, rfl, ⟨⟨b2, c2, rfl, hh⟩, ho⟩, ((only_up _ _ _ (Only.refl _ _) h1).trans ho (fun j hj _ => hj.elim))⟩
      rintro v w6 w7 h6 ⟨⟨b2, c2, rfl, hb2, hb2l, hps⟩, ho7⟩ hS7
      simp only [Act.put, List.setIfInBounds_toArray, List.set_cons_zero, List.set_cons_succ]
      have O57 := Lib.hid (show Only Noth w5 w7 from Only.undrew (h6.tr ho7))
      have Z6 := Lib.hid (show w5.heap.size ≤ w6.heap.size from (Only.undrew h6).size)
      refine wpN_map (i := 7) (b := b) (L := L) (e := ⟨K, l, b2, c2, st, en⟩) (by kernel_rfl) rfl (by rfl) rfl rfl rfl rfl rfl (M5.out.own.only O57.out (fun h => h)) HK.out (by omega) hS7 rfl ?_
      intro w8 hm8 ho8 hS8
      refine wpN_done (by kernel_rfl) (fun w9 ho9 => ?_) _
      have MB := Lib.hid (hm8.only ho9 (fun h => h))
      have OB := Lib.hid (show Only (fun k => k = b) w7 w9 from ho8.trans ho9 (fun j hj _ => hj.elim))
      have PB := Lib.hid hps
      have HB2 := Lib.hid (And.intro hb2 hb2l)
      clear hm8 ho8 hS8 ho9 hps hb2 hb2l ho7 hS7 h6
      go_wp2
      go_ret
      exact FIN.out b2 c2 (st) w7 w9 rfl O57.out OB.out MB.out PB.out (by have := HB2.out.1; have := Z6.out; omega) HB2.out.2
end Go.Proofs.YtokgignmdgejoaaDoor
