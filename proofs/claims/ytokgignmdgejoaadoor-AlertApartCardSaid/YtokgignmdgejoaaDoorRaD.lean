/- The document's alerts: Put. -/
import Derived.Test.YtokgignmdgejoaaDoorRaC
namespace Go.Proofs.YtokgignmdgejoaaDoor
open Go.RowKit Go.Lib
set_option linter.unusedVariables false
set_option linter.unusedSimpArgs false
set_option maxRecDepth 100000
attribute [local go_sem ↓] Go.wp_at_zero Go.wp_at_succ

def RowV (wb : World) (l : List Al) (v : Value) (w : World) : Prop := ∃ B d, v = .slice B l.length d ∧ ARow wb w B d l
def OneV (e : Al) (v : Value) (w : World) : Prop := ∃ p, v = .slice (some ⟨p, 0, none⟩) [e].length 1 ∧ Src w (fun k => k < w.heap.size) 3 (some ⟨p, 0, none⟩) [e].length (ACs [e])
theorem RowV.noth {wb w w' : World} {l : List Al} {v : Value} (h : RowV wb l v w) (ho : Only Noth w w') : RowV wb l v w' := by obtain ⟨B, d, h1, h2⟩ := h; exact ⟨B, d, h1, h2.noth ho⟩
theorem OneV.noth {w w' : World} {e : Al} {v : Value} (h : OneV e v w) (ho : Only Noth w w') : OneV e v w' := by
  obtain ⟨p, h1, h2⟩ := h
  exact ⟨p, h1, (h2.only ho (fun _ _ h => h)).mono (fun k _ hl => hl)⟩
/-- What Put of the document's store leaves. -/
def RPut (S : Nat → Prop) (A : Option Addr) (c : Nat) (N : List Al) (l : List Pr) (st en : Int) (w : World) (e : Ending) (w' : World) : Prop :=
  ∃ A' c' N', e = .returned (.tuple #[.agg #[.slice A' N'.length c'], .int .i64 (aerr N l st en)]) ∧ RfAt w' (fun k => S k ∨ w.heap.size ≤ k) A' c' N' ∧ (aerr N l st en ≠ 0 → N' = N) ∧ (aerr N l st en = 0 → ∃ blk cap, N' = cput ⟨⟨(lkey l).toArray⟩, l, blk, cap, ast N l st en, en⟩ N)
set_option maxHeartbeats 16000000 in
theorem rput_run (A : Option Addr) (c : Nat) (N : List Al) (l : List Pr) (st en : Int) (LA : Option Addr) (lc : Nat) (S S2 : Nat → Prop) (w : World) (h : RfAt w S A c N) (hp : PsAt w S2 LA lc l) :
    Calls Tryd.prog 35 #[.agg #[.slice A N.length c], .agg #[.slice LA l.length lc, .int .i64 st, .int .i64 en]] w fun e w' => RPut S A c N l st en w e w' ∧ Only Noth w w' := by
  have HR := Lib.hid h
  have HP := Lib.hid hp
  have hn0 : (0 : Int) ≤ N.length := by omega
  have hnl := h.len
  obtain ⟨W0, hW0⟩ : ∃ W, ((w.alloc (.cells #[.slice A N.length c] 40)).alloc (.cells #[.slice LA l.length lc, .int .i64 st, .int .i64 en] 27)).alloc (.cells #[.slice none 0 0] 40) = W := ⟨_, rfl⟩
  have B1 := Lib.hid (show Hld W0 w.heap.size 40 #[.slice A N.length c] by rw [← hW0]; exact ((Hld.new w _ _).alloc _).alloc _)
  have B2 := Lib.hid (show Hld W0 (w.heap.size + 1) 27 #[.slice LA l.length lc, .int .i64 st, .int .i64 en] by
    have := (Hld.new (w.alloc (.cells #[.slice A N.length c] 40)) 27 #[.slice LA l.length lc, .int .i64 st, .int .i64 en]).alloc (.cells #[.slice none 0 0] 40)
    rw [hW0] at this
    simpa using this)
  have B3 := Lib.hid (show Hld W0 (w.heap.size + 1 + 1) 40 #[.slice none 0 0] by
    have := Hld.new ((w.alloc (.cells #[.slice A N.length c] 40)).alloc (.cells #[.slice LA l.length lc, .int .i64 st, .int .i64 en] 27)) 40 #[.slice none 0 0]
    rw [hW0] at this
    simpa using this)
  have O0 := Lib.hid (show Only Noth w W0 by rw [← hW0]; exact (((Only.refl Noth w).alloc _).alloc _).alloc _)
  have m0 := B2.out.cell 0
  have m1 := B2.out.cell 1
  have m2 := B2.out.cell 2
  clear h hp
  go_enter Tryd.func35, Tryd.ntmps35
  go_wp2_with fail
  refine (rck_run LA lc l st en S2 W0 (HP.out.noth O0.out)).mono ?_
  rintro e w1 ⟨rfl, ho⟩
  have O1 := Lib.hid (O0.out.tr ho)
  replace B1 := Lib.hid (B1.out.only ho (fun h => h))
  replace B2 := Lib.hid (B2.out.only ho (fun h => h))
  replace B3 := Lib.hid (B3.out.only ho (fun h => h))
  clear ho hW0 m0 m1 m2
  obtain ⟨z, hz⟩ : ∃ z, acheck l st en = z := ⟨_, rfl⟩
  have HZ := Lib.hid hz
  rw [hz]
  clear hz
  -- the list as it was
  have NOK := Lib.hid (show ∀ (er : Int) (wx w9 : World), aerr N l st en = er → er ≠ 0 → Only Noth w wx → Only (fun k => k = w.heap.size + 1 + 1) wx w9 → RPut S A c N l st en w (.returned (.tuple #[.agg #[.slice A N.length c], .int .i64 er])) w9 ∧ Only Noth w w9 from fun er wx w9 he hne hx h9 => by
    have ho : Only Noth w w9 := hx.trans h9 (fun j hj hl => by have hj : j = w.heap.size + 1 + 1 := hj; omega)
    exact ⟨⟨A, c, N, by rw [he], (HR.out.noth ho).mono (fun k hk _ => .inl hk), fun _ => rfl, fun e => absurd (he.symm.trans e) hne⟩, ho⟩)
  by_cases hz0 : z ≠ 0
  · have HA := Lib.hid (show aerr N l st en = z by unfold aerr; rw [HZ.out, if_pos hz0])
    have hq : (z != 0) = true := by simpa using hz0
    have m0 : _ = some (Value.slice A N.length c) := B1.out.cell 0
    go_wp2_with (refine wpList_store_whole rfl rfl 40 (.tmp 4) (.tmp 16) rfl (w.heap.size + 1 + 1) rfl #[.slice A N.length c] rfl 40 _ B3.out rfl (by simp [Value.oneCell']) (by kernel_rfl) ?_; intro w9 hb9 ho9 _; have y0 := hb9.cell 0; have O9 := Lib.hid ho9; clear hb9 ho9)
    refine bodyPost_ret (v := .tuple #[.agg #[.slice A N.length c], .int .i64 z]) (by simp [results, Tryd.results35, go_sem, *]) rfl ?_
    exact NOK.out z w1 w9 HA.out hz0 O1.out O9.out
  have hz1 : z = 0 := Decidable.not_not.1 hz0
  subst hz1
  have HC1 := Lib.hid (show lcheck l = 0 by
    have := HZ.out
    unfold acheck at this
    split at this
    · rename_i h9; exact absurd this h9
    · rename_i h9; exact Decidable.not_not.1 h9)
  have hl1 : 1 ≤ l.length := by
    have := HZ.out
    unfold acheck at this
    split at this
    · rename_i h9; exact absurd this h9
    · split at this
      · cases this
      · rename_i h9; omega
  have hl8 := (lcheck_small HC1.out).1
  obtain ⟨K, hK⟩ : ∃ K, ByteArray.mk (lkey l).toArray = K := ⟨_, rfl⟩
  have HKE := Lib.hid hK
  have HKB := Lib.hid (show K.data.toList = lkey l by rw [← hK])
  obtain ⟨i, hi⟩ : ∃ i, rpos N (lkey l) = i := ⟨_, rfl⟩
  have HI := Lib.hid hi
  have hil : i ≤ N.length := by rw [← hi]; exact rpos_le _ _
  obtain ⟨is, his⟩ : ∃ is, ris N (lkey l) = is := ⟨_, rfl⟩
  have HIS := Lib.hid his
  have hi0 : (0 : Int) ≤ i := by omega
  -- the list with one put in
  have FIN := Lib.hid (show ∀ (k : Nat) (e0 : Al) (g5 c9 : Nat) (s' : Int), (⟨K, l, g5, c9, s', en⟩ : Al) = e0 → (s' = ast N l st en ∧ aerr N l st en = 0 ∧ cput e0 N = N.take i ++ e0 :: N.drop k ∧ w.heap.size ≤ g5 ∧ g5 ≠ w.heap.size + 1 + 1) → ∀ (B : Option Addr) (d : Nat) (M : List Al) (wb w6 w9 : World) {w11 : World}, M = (N.take i ++ [e0]) ++ N.drop k → Only Noth w wb → Only Noth wb w6 → Only (New wb) w6 w11 → Only (fun j => j = w.heap.size + 1 + 1) w11 w9 → ARow wb w11 B d M → PsAt wb (fun j => j = g5) (some ⟨g5, 0, none⟩) c9 l → w.heap.size + 1 + 1 < wb.heap.size → RPut S A c N l st en w (.returned (.tuple #[.agg #[.slice B M.length d], .int .i64 0])) w9 ∧ Only Noth w w9 from
    fun k e0 g5 c9 s' he hh B d M wb w6 w9 w11 hM hob ho6 ho11 ho9 hrow hps hzb => by
      obtain ⟨h1, h2, h3, h4, h5⟩ := hh
      have hMc : M = cput e0 N := by rw [h3, hM]; simp
      have hb3 : ∀ j, wb.heap.size ≤ j → j ≠ w.heap.size + 1 + 1 := fun j hj e => by omega
      have ho : Only Noth w w9 := ((hob.tr ho6).trans ho11 (fun j hj hl => by have hj : wb.heap.size ≤ j := hj; omega)).trans ho9 (fun j hj hl => by have hj : j = w.heap.size + 1 + 1 := hj; omega)
      have hob9 : Only (fun j => wb.heap.size ≤ j ∨ j = w.heap.size + 1 + 1) wb w9 := ((ho6.mono (fun j hj _ => hj.elim)).trans (ho11.mono (fun j hj _ => .inl hj)) (fun j hj _ => hj)).trans ho9 (fun j hj _ => .inr hj)
      have hek : e0.key = ⟨(lkey e0.ls).toArray⟩ := by rw [← he, ← HKE.out]
      have hel : e0.ls = l := by rw [← he]
      refine ⟨⟨B, d, M, by rw [h2], ⟨LsAt.of_row (S := fun k => S k ∨ w.heap.size ≤ k) (hrow.only ho9 (fun j hj e => hb3 j hj e)) (fun j hj _ => .inr (by have hj : wb.heap.size ≤ j := hj; omega)) (fun x hx => ?_), ?_, ?_, fun x hx => ?_⟩, fun hne => absurd h2 hne, fun _ => ⟨g5, c9, by rw [hMc, ← he, h1, HKE.out]⟩⟩, ho⟩
      · rw [hMc] at hx
        rcases cput_mem.1 hx with rfl | ⟨hx, _⟩
        · rw [← he]
          exact (hps.only hob9 (fun j hj hf => by
            have hj : j = g5 := hj
            subst hj
            rcases hf with hf | hf
            · obtain ⟨b, o, hA, hS, hb, _⟩ := hps.mem (by omega)
              have hS : b = j := hS
              omega
            · exact h5 hf)).mono (fun j hj _ => .inr (by have hj : j = g5 := hj; omega))
        · have hxo := HR.out.ok x hx
          exact ((HR.out.ls.labs x hx).noth ho).mono (fun j hj _ => .inl hj)
      · rw [hMc]; exact cput_srt HR.out.srt
      · rw [hMc, cput_len HR.out.srt]
        have hkb : e0.kb = lkey l := by rw [← he]; exact HKB.out
        rw [hkb]
        split
        · exact hnl
        · rename_i hn
          have h9 := h2
          unfold aerr at h9
          rw [HZ.out, if_neg (by decide)] at h9
          split at h9
          · cases h9
          · rename_i h10
            have : (cget (lkey l) N).isSome = false := by simpa using hn
            have : ¬ 64 ≤ N.length := fun h8 => h10 ⟨this, h8⟩
            omega
      · rw [hMc] at hx
        rcases cput_mem.1 hx with rfl | ⟨hx, _⟩
        · rw [hel]
          exact ⟨HC1.out, hl1, by rw [hek, hel]⟩
        · exact HR.out.ok x hx)
  clear hK hi his hz0
  go_upto_region 4 with fail
  refine wp_region_N Noth (by kernel_rfl) ?_
  refine wpN_take (i := 0) (d := some 19) rfl rfl (by kernel_rfl) (by kernel_rfl) (by kernel_rfl) (fun _ _ _ h => h) (sure_value (v := .agg #[.slice A N.length c]) (by rfl) (fun v1 h1 => by have c0 := (B1.out.only (Only.undrew h1) (fun h => h)).cell 0; go_simp)) (Only.refl _ _) ?_
  simp only [Act.put, List.setIfInBounds_toArray, List.set_cons_zero, List.set_cons_succ]
  refine wpN_take (i := 1) (d := some 20) rfl rfl (by kernel_rfl) (by kernel_rfl) (by kernel_rfl) (fun _ _ _ h => h) (sure_value (v := .pointer (some ⟨w.heap.size + 1, 0, none⟩)) (by rfl) (fun v1 h1 => by first | rfl | (go_simp; done) | (go_simp; intro h9; exact absurd h9 (by omega)) | (go_simp; assumption))) (Only.refl _ _) ?_
  simp only [Act.put, List.setIfInBounds_toArray, List.set_cons_zero, List.set_cons_succ]
  refine wpN_take (i := 2) (d := some 21) rfl rfl (by kernel_rfl) (by kernel_rfl) (by kernel_rfl) (fun _ _ _ h => h) (sure_lit (v := .slice LA l.length lc) (i := 0) B2.out.drew rfl (fun h => h) (by rfl) (fun _ h => by go_simp)) (Only.refl _ _) ?_
  simp only [Act.put, List.setIfInBounds_toArray, List.set_cons_zero, List.set_cons_succ]
  refine wpN_take (i := 3) (d := some 22) rfl rfl (by kernel_rfl) (by kernel_rfl) (by kernel_rfl) (fun _ _ _ h => h) (sure_call (v := .string K) (fun w' h' => by have := rkey_run S2 LA lc l (lcheck_small HC1.out).1 (lcheck_small HC1.out).2 w' (HP.out.noth (O1.out.tr (Only.undrew h'))); rw [HKE.out] at this; exact this) (by rfl) (fun _ => by go_simp)) (Only.refl _ _) ?_
  simp only [Act.put, List.setIfInBounds_toArray, List.set_cons_zero, List.set_cons_succ]
  refine wpN_take (i := 4) (d := some 23) rfl rfl (by kernel_rfl) (by kernel_rfl) (by kernel_rfl) (fun _ _ _ h => h) (sure_call (v := .tuple #[.int .i64 (i : Nat), .bool is]) (fun w' h' => by have := rplace_run A c N K S w' (HR.out.noth (O1.out.tr (Only.undrew h'))); rw [HKB.out, HI.out, HIS.out] at this; exact this) (by rfl) (fun _ => by go_simp)) (Only.refl _ _) ?_
  simp only [Act.put, List.setIfInBounds_toArray, List.set_cons_zero, List.set_cons_succ]
  refine wpN_take (i := 5) (d := some 18) rfl rfl (by kernel_rfl) (by kernel_rfl) (by kernel_rfl) (fun _ _ _ h => h) (sure_value (v := .tuple #[.int .i64 (i : Nat), .bool is]) (by rfl) (fun v1 h1 => by first | rfl | (go_simp; done) | (go_simp; intro h9; exact absurd h9 (by omega)) | (go_simp; assumption))) (Only.refl _ _) ?_
  simp only [Act.put, List.setIfInBounds_toArray, List.set_cons_zero, List.set_cons_succ]
  refine wpN_take (i := 6) (d := some 24) rfl rfl (by kernel_rfl) (by kernel_rfl) (by kernel_rfl) (fun _ _ _ h => h) (sure_value (v := .int .i64 (i : Nat)) (by rfl) (fun v1 h1 => by first | rfl | (go_simp; done) | (go_simp; intro h9; exact absurd h9 (by omega)) | (go_simp; assumption))) (Only.refl _ _) ?_
  simp only [Act.put, List.setIfInBounds_toArray, List.set_cons_zero, List.set_cons_succ]
  refine wpN_take (i := 7) (d := some 25) rfl rfl (by kernel_rfl) (by kernel_rfl) (by kernel_rfl) (fun _ _ _ h => h) (sure_value (v := .bool is) (by rfl) (fun v1 h1 => by first | rfl | (go_simp; done) | (go_simp; intro h9; exact absurd h9 (by omega)) | (go_simp; assumption))) (Only.refl _ _) ?_
  simp only [Act.put, List.setIfInBounds_toArray, List.set_cons_zero, List.set_cons_succ]
  refine wpN_take (i := 8) (d := some 7) rfl rfl (by kernel_rfl) (by kernel_rfl) (by kernel_rfl) (fun _ _ _ h => h) (sure_value (v := .int .i64 (i : Nat)) (by rfl) (fun v1 h1 => by first | rfl | (go_simp; done) | (go_simp; intro h9; exact absurd h9 (by omega)) | (go_simp; assumption))) (Only.refl _ _) ?_
  simp only [Act.put, List.setIfInBounds_toArray, List.set_cons_zero, List.set_cons_succ]
  refine wpN_take (i := 9) (d := some 8) rfl rfl (by kernel_rfl) (by kernel_rfl) (by kernel_rfl) (fun _ _ _ h => h) (sure_value (v := .bool is) (by rfl) (fun v1 h1 => by first | rfl | (go_simp; done) | (go_simp; intro h9; exact absurd h9 (by omega)) | (go_simp; assumption))) (Only.refl _ _) ?_
  simp only [Act.put, List.setIfInBounds_toArray, List.set_cons_zero, List.set_cons_succ]
  refine wpN_done (by kernel_rfl) (fun w2 ho => ?_) _
  have O2 := Lib.hid (O1.out.tr (Only.undrew ho))
  replace B1 := Lib.hid (B1.out.only (Only.undrew ho) (fun h => h))
  replace B2 := Lib.hid (B2.out.only (Only.undrew ho) (fun h => h))
  replace B3 := Lib.hid (B3.out.only (Only.undrew ho) (fun h => h))
  have RN := Lib.hid (HR.out.noth O2.out)
  have z2 := B3.out.lt
  clear ho
  have m0 : _ = some (Value.slice A N.length c) := B1.out.cell 0
  obtain ⟨ip, hip, hz0', hz1', hz2'⟩ := info_parts prinfo
  have RW := Lib.hid (Row.empty (w2.alloc (.cells #[] 63)) (New w2) 63 2 (some ⟨w2.heap.size, 0, none⟩))
  have SV := Lib.hid ((HP.out.noth O2.out).src.alloc (.cells #[] 63))
  have BA := Lib.hid (B2.out.alloc (.cells #[] 63))
  have n0 := BA.out.cell 0
  cases is
  · have HNO := Lib.hid (show cget (lkey l) N = none ∧ ∀ e : Al, e.kb = lkey l → cput e N = N.take i ++ e :: N.drop i from by
      have hh := ris_no HIS.out
      have hb := rpos_take N (lkey l)
      rw [HI.out] at hh hb
      refine ⟨?_, fun e he => (put_at_ne (e := e) HR.out.srt (by rw [he]; exact hb) (by rw [he]; exact hh)).2⟩
      have e : (⟨K, l, 0, 0, 0, 0⟩ : Al).kb = lkey l := HKB.out
      have := (put_at_ne (e := ⟨K, l, 0, 0, 0, 0⟩) HR.out.srt (by rw [e]; exact hb) (by rw [e]; exact hh)).1
      rw [e] at this
      exact this)
    by_cases hfull : (64 : Int) ≤ N.length
    · have HA := Lib.hid (show aerr N l st en = 11 by unfold aerr; rw [HZ.out, HNO.out.1, if_neg (by decide), if_pos ⟨rfl, by omega⟩])
      go_wp2_with (refine wpList_store_whole rfl rfl 40 (.tmp 4) (.tmp 34) rfl (w.heap.size + 1 + 1) rfl #[.slice A N.length c] rfl 40 _ B3.out rfl (by simp [Value.oneCell']) (by kernel_rfl) ?_; intro w9 hb9 ho9 _; have y0 := hb9.cell 0; have O9 := Lib.hid ho9; clear hb9 ho9)
      refine bodyPost_ret (v := .tuple #[.agg #[.slice A N.length c], .int .i64 11]) (by simp [results, Tryd.results35, go_sem, *]) rfl ?_
      exact NOK.out 11 w2 w9 HA.out (by decide) O2.out O9.out
    · have HA := Lib.hid (show aerr N l st en = 0 by unfold aerr; rw [HZ.out, HNO.out.1, if_neg (by decide), if_neg (fun h => hfull (by have := h.2; omega))])
      have HAS := Lib.hid (show st = ast N l st en by unfold ast; rw [HNO.out.1])
      go_upto_region 8 with (at_builtin; refine wpList_append_row _ rfl (.tmp 35) (.tmp 37) 25 rfl 63 ip (.agg #[.string ⟨#[]⟩, .string ⟨#[]⟩]) 2 32 Tryd.underlying25 hip hz0' hz1' hz2' rfl (New w2) _ _ 0 _ rfl RW.out LA l.length lc (prCs l) rfl SV.out (prCs_one l) (by simp only [maxLen]; omega) (by omega) ?_; intro v' w3 hrow3 ho3 _; obtain ⟨A9, c9, hv9⟩ := hrow3.shape; subst hv9; have HR3 := Lib.hid hrow3; have HO3 := Lib.hid ho3; have q0 := (BA.out.only ho3 (fun h => by have h : w2.heap.size ≤ w.heap.size + 1 := h; omega)).cell 0; have f0 := (BA.out.only ho3 (fun h => by have h : w2.heap.size ≤ w.heap.size + 1 := h; omega)).free 0; clear hrow3 ho3)
      have hr3 := HR3.out
      rw [List.nil_append, Nat.zero_add] at hr3
      have hr4 : Row w3 (New w2) 63 2 (.slice A9 l.length c9) l.length (prCs l) := hr3.mono (fun k hk _ => by
        rcases hk with hk | hk
        · exact hk
        · have := hk.1
          simp only [World.size_alloc] at this
          show w2.heap.size ≤ k
          omega)
      obtain ⟨g5, hg5, hgn, hgl, hps⟩ := hr4.ps rfl hl1 HP.out.sz
      subst hg5
      have ho23 : Only Noth w2 w3 := ((Only.refl Noth w2).alloc (.cells #[] 63)).trans HO3.out (fun j hj hl => by have hj : w2.heap.size ≤ j := hj; omega)
      have G5 := Lib.hid (show w.heap.size ≤ g5 ∧ g5 ≠ w.heap.size + 1 + 1 ∧ g5 ≠ w.heap.size + 1 from by have hgn : w2.heap.size ≤ g5 := hgn; have := O2.out.size; omega)
      obtain ⟨wt, hwt⟩ : ∃ W, w3.setCell ⟨w.heap.size + 1, 0, none⟩ (.slice (some ⟨g5, 0, none⟩) (0 + l.length) c9) = W := ⟨_, rfl⟩
      have O3t : Only (fun k => k = w.heap.size + 1) w3 wt := by rw [← hwt]; exact (Only.refl (fun k => k = w.heap.size + 1) w3).setCell (p := ⟨w.heap.size + 1, 0, none⟩) (fun _ => rfl) _
      have OT := Lib.hid (show Only Noth w wt from (O2.out.tr ho23).trans O3t (fun j hj hl => by have hj : j = w.heap.size + 1 := hj; omega))
      replace B1 := Lib.hid ((B1.out.only ho23 (fun h => h)).only O3t (fun e => by have e : w.heap.size = w.heap.size + 1 := e; omega))
      replace B3 := Lib.hid ((B3.out.only ho23 (fun h => h)).only O3t (fun e => by have e : w.heap.size + 1 + 1 = w.heap.size + 1 := e; omega))
      replace B2 := Lib.hid (show Hld wt (w.heap.size + 1) 27 #[.slice (some ⟨g5, 0, none⟩) l.length c9, .int .i64 st, .int .i64 en] by rw [← hwt]; have := (B2.out.only ho23 (fun h => h)).set_ 0 (.slice (some ⟨g5, 0, none⟩) (0 + l.length) c9); simpa using this)
      have RT := Lib.hid (show RfAt wt S A c N from HR.out.noth OT.out)
      have PT := Lib.hid (show PsAt wt (fun k => k = g5) (some ⟨g5, 0, none⟩) c9 l from by
        have h1 : PsAt w3 (fun k => k = g5) (some ⟨g5, 0, none⟩) c9 l := ⟨fun hl => by
          obtain ⟨b, o, hA, hS, hb, hc⟩ := hps.mem hl
          refine ⟨b, o, hA, ?_, hb, hc⟩
          injection hA with hA
          injection hA with hA
          exact hA.symm, hps.sz, hps.cap, hps.top⟩
        exact h1.only O3t (fun j hj e => by have hj : j = g5 := hj; have e : j = w.heap.size + 1 := e; exact G5.out.2.2 (hj.symm.trans e)))
      simp only [Nat.zero_add] at hwt ⊢
      rw [hwt]
      clear hr3 hr4 hgn hgl hps ho23 O3t hwt q0 f0 m0 n0 HR3 HO3 RW SV BA
      have m0 : _ = some (Value.slice A N.length c) := B1.out.cell 0
      have ZB := Lib.hid B3.out.lt
      go_upto_region 15 with fail
      obtain ⟨A1, hr1, he1⟩ := ls_to i RT.out.ls (by omega)
      obtain ⟨A2, c2, hr2, he2⟩ := ls_from (i) RT.out.ls (by omega)
      have hpl : (N.take i).length ≤ 64 := by rw [List.length_take]; omega
      have hdl : (N.drop (i)).length ≤ 64 := by rw [List.length_drop]; omega
      obtain ⟨PL, hPL⟩ : ∃ PL, N.take i = PL := ⟨_, rfl⟩
      obtain ⟨DL, hDL⟩ : ∃ DL, N.drop (i) = DL := ⟨_, rfl⟩
      have HPL := Lib.hid hPL
      have HDL := Lib.hid hDL
      rw [hPL] at hr1 he1 hpl
      rw [hDL] at hr2 he2 hdl
      have E1 := Lib.hid he1
      have E2 := Lib.hid he2
      have HR1 := Lib.hid hr1
      have HR2 := Lib.hid (show ∀ V : World, (Instr.slice 32 (.slice A N.length c) (some (.int .i64 ((i : Int)))) none none).run Tryd.prog V = .ok (.slice A2 DL.length c2) V from by simpa using hr2)
      obtain ⟨e0, he0⟩ : ∃ e0, (⟨K, l, g5, c9, st, en⟩ : Al) = e0 := ⟨_, rfl⟩
      have HE0 := Lib.hid he0
      clear hr1 he1 hr2 he2 hPL hDL he0
      refine wp_region_N Noth (by kernel_rfl) ?_
      refine wpN_take (i := 0) (d := some 67) rfl rfl (by kernel_rfl) (by kernel_rfl) (by kernel_rfl) (fun _ _ _ h => h) (sure_value (v := .slice none 0 0) (by rfl) (fun v1 h1 => by first | rfl | (go_simp; done) | (go_simp; intro h9; exact absurd h9 (by omega)) | (go_simp; assumption))) (Only.refl _ _) ?_
      simp only [Act.put, List.setIfInBounds_toArray, List.set_cons_zero, List.set_cons_succ]
      refine wpN_take (i := 1) (d := some 68) rfl rfl (by kernel_rfl) (by kernel_rfl) (by kernel_rfl) (fun _ _ _ h => h) (sure_value (v := .pointer (some ⟨w.heap.size, 0, none⟩)) (by rfl) (fun v1 h1 => by first | rfl | (go_simp; done) | (go_simp; intro h9; exact absurd h9 (by omega)) | (go_simp; assumption))) (Only.refl _ _) ?_
      simp only [Act.put, List.setIfInBounds_toArray, List.set_cons_zero, List.set_cons_succ]
      refine wpN_take (i := 2) (d := some 69) rfl rfl (by kernel_rfl) (by kernel_rfl) (by kernel_rfl) (fun _ _ _ h => h) (sure_lit (v := .slice A N.length c) (i := 0) B1.out.drew rfl (fun h => h) (by rfl) (fun _ h => by go_simp)) (Only.refl _ _) ?_
      simp only [Act.put, List.setIfInBounds_toArray, List.set_cons_zero, List.set_cons_succ]
      refine wpN_take (i := 3) (d := some 70) rfl rfl (by kernel_rfl) (by kernel_rfl) (by kernel_rfl) (fun _ _ _ h => h) (sure_value (v := .int .i64 (i : Nat)) (by rfl) (fun v1 h1 => by first | rfl | (go_simp; done) | (go_simp; intro h9; exact absurd h9 (by omega)) | (go_simp; assumption))) (Only.refl _ _) ?_
      simp only [Act.put, List.setIfInBounds_toArray, List.set_cons_zero, List.set_cons_succ]
      refine wpN_take (i := 4) (d := some 71) rfl rfl (by kernel_rfl) (by kernel_rfl) (by kernel_rfl) (fun _ _ _ h => h) (sure_slice HR1.out (by kernel_rfl) (by rfl) rfl rfl rfl rfl) (Only.refl _ _) ?_
      simp only [Act.put, List.setIfInBounds_toArray, List.set_cons_zero, List.set_cons_succ]
      refine wpN_take (i := 6) (d := some 73) rfl rfl (by kernel_rfl) (by kernel_rfl) (by kernel_rfl) (fun _ _ _ h => h) (sure_value (v := .agg (⟨K, l, g5, c9, st, en⟩ : Al).arr) (by rfl) (fun v1 h1 => by have hb := B2.out.only (Only.undrew h1) (fun h => h); have c0 := hb.cell 0; have c1 := hb.cell 1; have c2 := hb.cell 2; go_simp)) (Only.refl _ _) ?_
      simp only [Act.put, List.setIfInBounds_toArray, List.set_cons_zero, List.set_cons_succ]
      refine wpN_run2 (i := 5) (j := 7) (d := some 72) (d' := some 74) (RowV wt.drew PL) (OneV e0) (fun _ _ _ h ho => h.noth ho) (fun _ _ _ h ho => h.noth ho) (by kernel_rfl) (by kernel_rfl) (by kernel_rfl) (by decide) rfl rfl rfl rfl rfl rfl (by simp) (Only.refl _ _) (fun u w2 h2 => ?_) (fun u w2 h2 => ?_) ?_
      · obtain ⟨B, d, w3, hrun, hrow, ho⟩ := app_als_run w2 w2 32 (ARow.empty w2 w2 none) ((E1.out.noth (Only.undrew h2)).src) (by simp only [List.length_nil]; omega) (Only.refl _ _)
        simp only [List.nil_append] at hrun hrow
        exact ⟨_, w3, app_op rfl rfl rfl hrun, app_op rfl rfl rfl hrun, ⟨B, d, rfl, hrow.up h2.size⟩, ho.mono (fun j hj hl => by have hj : w2.heap.size ≤ j := hj; omega)⟩
      · exact ⟨.slice (some ⟨w2.heap.size, 0, none⟩) 1 1, w2.alloc (.cells (⟨K, l, g5, c9, st, en⟩ : Al).arr 27), by go_simp, by go_simp, ⟨w2.heap.size, rfl, by rw [← HE0.out]; exact al_src (Hld.new w2 27 _)⟩, (Only.refl _ _).alloc _⟩
      rintro v u w2 ⟨B, d, rfl, hrow⟩ ⟨p, rfl, hone⟩ ho2
      have ER := Lib.hid hrow
      have EO := Lib.hid hone
      have OB := Lib.hid ho2
      clear hrow hone ho2
      simp only [Act.put, List.setIfInBounds_toArray, List.set_cons_zero, List.set_cons_succ]
      refine wpN_run1 (i := 8) (d := some 75) (RowV wt.drew (PL ++ [e0])) (by kernel_rfl) rfl rfl (by rfl) (fun w3 h3 => ?_) ?_
      · obtain ⟨B9, d9, w4, hrun, hrow, ho⟩ := app_als_run wt.drew w3 32 (ER.out.noth h3) (EO.out.only h3 (fun _ _ h => h)) (by simp only [List.length_cons, List.length_nil]; omega) (OB.out.tr h3)
        exact ⟨_, w4, app_op rfl rfl rfl hrun, ⟨B9, d9, rfl, hrow⟩, (OB.out.tr h3).trans ho (fun j hj hl => by have hj : wt.drew.heap.size ≤ j := hj; omega)⟩
      rintro v w4 ⟨B9, d9, rfl, hrow9⟩ hO4
      simp only [Act.put, List.setIfInBounds_toArray, List.set_cons_zero, List.set_cons_succ]
      refine wpN_rebase hO4 ?_
      have hpl1 : (PL ++ [e0]).length = PL.length + 1 := by simp
      refine wpN_take (i := 9) (d := some 11) rfl rfl (by kernel_rfl) (by kernel_rfl) (by kernel_rfl) (fun _ _ _ h => h) (sure_value (v := .slice B9 (PL ++ [e0]).length d9) (by rfl) (fun v1 h1 => by first | rfl | (go_simp; done) | (go_simp; intro h9; exact absurd h9 (by omega)) | (go_simp; assumption))) (Only.refl _ _) ?_
      simp only [Act.put, List.setIfInBounds_toArray, List.set_cons_zero, List.set_cons_succ]
      refine wpN_done (by kernel_rfl) (fun w6 ho => ?_) _
      have O6 := Lib.hid (show Only Noth wt w6 from Only.undrew (only_up _ _ _ hO4 ho))
      have ER6 := Lib.hid (hrow9.noth ho)
      replace B1 := Lib.hid (B1.out.only O6.out (fun h => h))
      replace B3 := Lib.hid (B3.out.only O6.out (fun h => h))
      have E26 := Lib.hid (E2.out.noth O6.out)
      have hr2 := HR2.out
      have m0 := B1.out.cell 0
      have z6 := O6.out.size
      clear ho hO4 hrow9
      go_wp2_with (first | (at_builtin; refine wpList_app_als wt w6 rfl (.tmp 76) (.tmp 80) rfl (l := PL ++ [e0]) (m := DL) rfl ER6.out rfl E26.out.src (by omega) O6.out ?_; intro B11 d11 M11 w11 hM hr ho; have EF := Lib.hid hr; have HM := Lib.hid hM; have HO11 := Lib.hid ho; replace B3 := Lib.hid (B3.out.only ho (fun h => by have h : wt.heap.size ≤ w.heap.size + 1 + 1 := h; have := ZB.out; omega)); clear hM hr ho) | (refine wpList_store_whole rfl rfl 40 (.tmp 4) (.tmp 82) rfl (w.heap.size + 1 + 1) rfl #[.slice B11 M11.length d11] rfl 40 _ B3.out rfl (by simp [Value.oneCell']) (by kernel_rfl) ?_; intro w9 hb9 ho9 _; have y0 := hb9.cell 0; have HO9 := Lib.hid ho9; clear hb9 ho9))
      refine bodyPost_ret (v := .tuple #[.agg #[.slice B11 M11.length d11], .int .i64 0]) (by simp [results, Tryd.results35, go_sem, *]) rfl ?_
      exact FIN.out i e0 g5 c9 (st) HE0.out ⟨HAS.out, HA.out, HNO.out.2 e0 (by rw [← HE0.out]; exact HKB.out), G5.out.1, G5.out.2.1⟩ B11 d11 M11 wt w6 w9 (by rw [HM.out, ← HPL.out, ← HDL.out]) OT.out O6.out HO11.out HO9.out EF.out PT.out ZB.out
  · obtain ⟨x, hx, hxk⟩ := ris_yes HIS.out
    rw [HI.out] at hx
    have HX := Lib.hid hx
    have HYES := Lib.hid (show cget (lkey l) N = some x ∧ ∀ e : Al, e.kb = lkey l → cput e N = N.take i ++ e :: N.drop (i + 1) from by
      refine ⟨?_, fun e he => (put_at_eq (e := e) HR.out.srt hx (by rw [he]; exact hxk)).2⟩
      have e : (⟨K, l, 0, 0, 0, 0⟩ : Al).kb = lkey l := HKB.out
      have := (put_at_eq (e := ⟨K, l, 0, 0, 0, 0⟩) HR.out.srt hx (by rw [e]; exact hxk)).1
      rw [e] at this
      exact this)
    have hilt : i < N.length := (List.getElem?_eq_some_iff.1 hx).1
    have hilt' : (i : Int) < N.length := by omega
    have HA := Lib.hid (show aerr N l st en = 0 by unfold aerr; rw [HZ.out, HYES.out.1, if_neg (by decide), if_neg (fun h => by cases h.1)])
    have HAS := Lib.hid (show ast N l st en = (if st ≤ x.en ∧ x.st ≤ en then (if st ≤ x.st then st else x.st) else st) by unfold ast; rw [HYES.out.1])
    clear hx hxk
    go_upto_region 8 with (at_builtin; refine wpList_append_row _ rfl (.tmp 35) (.tmp 37) 25 rfl 63 ip (.agg #[.string ⟨#[]⟩, .string ⟨#[]⟩]) 2 32 Tryd.underlying25 hip hz0' hz1' hz2' rfl (New w2) _ _ 0 _ rfl RW.out LA l.length lc (prCs l) rfl SV.out (prCs_one l) (by simp only [maxLen]; omega) (by omega) ?_; intro v' w3 hrow3 ho3 _; obtain ⟨A9, c9, hv9⟩ := hrow3.shape; subst hv9; have HR3 := Lib.hid hrow3; have HO3 := Lib.hid ho3; have q0 := (BA.out.only ho3 (fun h => by have h : w2.heap.size ≤ w.heap.size + 1 := h; omega)).cell 0; have f0 := (BA.out.only ho3 (fun h => by have h : w2.heap.size ≤ w.heap.size + 1 := h; omega)).free 0; clear hrow3 ho3)
    have hr3 := HR3.out
    rw [List.nil_append, Nat.zero_add] at hr3
    have hr4 : Row w3 (New w2) 63 2 (.slice A9 l.length c9) l.length (prCs l) := hr3.mono (fun k hk _ => by
      rcases hk with hk | hk
      · exact hk
      · have := hk.1
        simp only [World.size_alloc] at this
        show w2.heap.size ≤ k
        omega)
    obtain ⟨g5, hg5, hgn, hgl, hps⟩ := hr4.ps rfl hl1 HP.out.sz
    subst hg5
    have ho23 : Only Noth w2 w3 := ((Only.refl Noth w2).alloc (.cells #[] 63)).trans HO3.out (fun j hj hl => by have hj : w2.heap.size ≤ j := hj; omega)
    have G5 := Lib.hid (show w.heap.size ≤ g5 ∧ g5 ≠ w.heap.size + 1 + 1 ∧ g5 ≠ w.heap.size + 1 from by have hgn : w2.heap.size ≤ g5 := hgn; have := O2.out.size; omega)
    obtain ⟨wt, hwt⟩ : ∃ W, w3.setCell ⟨w.heap.size + 1, 0, none⟩ (.slice (some ⟨g5, 0, none⟩) (0 + l.length) c9) = W := ⟨_, rfl⟩
    have O3t : Only (fun k => k = w.heap.size + 1) w3 wt := by rw [← hwt]; exact (Only.refl (fun k => k = w.heap.size + 1) w3).setCell (p := ⟨w.heap.size + 1, 0, none⟩) (fun _ => rfl) _
    have OT := Lib.hid (show Only Noth w wt from (O2.out.tr ho23).trans O3t (fun j hj hl => by have hj : j = w.heap.size + 1 := hj; omega))
    replace B1 := Lib.hid ((B1.out.only ho23 (fun h => h)).only O3t (fun e => by have e : w.heap.size = w.heap.size + 1 := e; omega))
    replace B3 := Lib.hid ((B3.out.only ho23 (fun h => h)).only O3t (fun e => by have e : w.heap.size + 1 + 1 = w.heap.size + 1 := e; omega))
    replace B2 := Lib.hid (show Hld wt (w.heap.size + 1) 27 #[.slice (some ⟨g5, 0, none⟩) l.length c9, .int .i64 st, .int .i64 en] by rw [← hwt]; have := (B2.out.only ho23 (fun h => h)).set_ 0 (.slice (some ⟨g5, 0, none⟩) (0 + l.length) c9); simpa using this)
    have RT := Lib.hid (show RfAt wt S A c N from HR.out.noth OT.out)
    have PT := Lib.hid (show PsAt wt (fun k => k = g5) (some ⟨g5, 0, none⟩) c9 l from by
      have h1 : PsAt w3 (fun k => k = g5) (some ⟨g5, 0, none⟩) c9 l := ⟨fun hl => by
        obtain ⟨b, o, hA, hS, hb, hc⟩ := hps.mem hl
        refine ⟨b, o, hA, ?_, hb, hc⟩
        injection hA with hA
        injection hA with hA
        exact hA.symm, hps.sz, hps.cap, hps.top⟩
      exact h1.only O3t (fun j hj e => by have hj : j = g5 := hj; have e : j = w.heap.size + 1 := e; exact G5.out.2.2 (hj.symm.trans e)))
    simp only [Nat.zero_add] at hwt ⊢
    rw [hwt]
    clear hr3 hr4 hgn hgl hps ho23 O3t hwt q0 f0 m0 n0 HR3 HO3 RW SV BA
    have m0 : _ = some (Value.slice A N.length c) := B1.out.cell 0
    obtain ⟨xb, xo, hXA, _, hxl, hxc⟩ := RT.out.ls.mem (by omega)
    obtain ⟨k0, k1, k2⟩ := hxc i x HX.out
    subst hXA
    clear hxc
    go_upto_region 11 with (refine wpList_store_whole rfl rfl 27 (.tmp 10) (.tmp 46) rfl wt.heap.size rfl _ rfl 27 _ (Hld.new wt _ _) rfl (by simp [Value.oneCell']) (by kernel_rfl) ?_; intro w5 gb ho5 hz5; have P5 := Lib.hid gb; have O5 := Lib.hid (show Only Noth wt w5 from ((Only.refl Noth wt).alloc _).trans ho5 (fun j hj hl => by have hj : j = wt.heap.size := hj; omega)); clear gb ho5 hz5)
    replace OT := Lib.hid (OT.out.tr O5.out)
    replace B1 := Lib.hid (B1.out.only O5.out (fun h => h))
    replace B2 := Lib.hid (B2.out.only O5.out (fun h => h))
    replace B3 := Lib.hid (B3.out.only O5.out (fun h => h))
    replace RT := Lib.hid (RT.out.noth O5.out)
    replace PT := Lib.hid (PT.out.noth O5.out)
    have z5 := O5.out.size
    clear k0 k1 k2
    obtain ⟨g7, hg7⟩ : ∃ g7, wt.heap.size = g7 := ⟨_, rfl⟩
    have HG7 := Lib.hid hg7
    rw [hg7] at P5 z5
    simp only [hg7]
    clear hg7
    have y1 := P5.out.cell 1
    have y2 := P5.out.cell 2
    have b1 := B2.out.cell 1
    have b2 := B2.out.cell 2
    have f1 := B2.out.free 1
    have m0 : _ = some (Value.slice (some ⟨xb, xo, none⟩) N.length c) := B1.out.cell 0
    by_cases c1 : st ≤ x.en
    · by_cases c2 : x.st ≤ en
      · obtain ⟨mn, hmn⟩ : ∃ mn, min st x.st = mn := ⟨_, rfl⟩
        have HAS2 := Lib.hid (show mn = ast N l st en by rw [HAS.out, if_pos ⟨c1, c2⟩, ← hmn, Int.min_def])
        go_upto_region 13 with fail
        obtain ⟨w7, hw7⟩ : ∃ W, w5.setCell ⟨w.heap.size + 1, 1, none⟩ (.int .i64 mn) = W := ⟨_, rfl⟩
        rw [hw7]
        have O57 : Only (fun k => k = w.heap.size + 1) w5 w7 := by rw [← hw7]; exact (Only.refl (fun k => k = w.heap.size + 1) w5).setCell (p := ⟨w.heap.size + 1, 1, none⟩) (fun _ => rfl) _
        replace OT := Lib.hid (show Only Noth w w7 from OT.out.trans O57 (fun j hj hl => by have hj : j = w.heap.size + 1 := hj; omega))
        replace B1 := Lib.hid (B1.out.only O57 (fun e => by have e : w.heap.size = w.heap.size + 1 := e; omega))
        replace B3 := Lib.hid (B3.out.only O57 (fun e => by have e : w.heap.size + 1 + 1 = w.heap.size + 1 := e; omega))
        replace B2 := Lib.hid (show Hld w7 (w.heap.size + 1) 27 #[.slice (some ⟨g5, 0, none⟩) l.length c9, .int .i64 mn, .int .i64 en] by rw [← hw7]; have := B2.out.set_ 1 (.int .i64 mn); simpa using this)
        replace RT := Lib.hid (show RfAt w7 S (some ⟨xb, xo, none⟩) c N from HR.out.noth OT.out)
        replace PT := Lib.hid (PT.out.only O57 (fun j hj e => by have hj : j = g5 := hj; have e : j = w.heap.size + 1 := e; exact G5.out.2.2 (hj.symm.trans e)))
        clear hmn hw7 O57 y1 y2 b1 b2 f1 m0 O5
        have m0 : _ = some (Value.slice (some ⟨xb, xo, none⟩) N.length c) := B1.out.cell 0
        have ZB := Lib.hid B3.out.lt
        go_upto_region 15 with fail
        obtain ⟨A1, hr1, he1⟩ := ls_to i RT.out.ls (by omega)
        obtain ⟨A2, c2, hr2, he2⟩ := ls_from (i + 1) RT.out.ls (by omega)
        have hpl : (N.take i).length ≤ 64 := by rw [List.length_take]; omega
        have hdl : (N.drop (i + 1)).length ≤ 64 := by rw [List.length_drop]; omega
        obtain ⟨PL, hPL⟩ : ∃ PL, N.take i = PL := ⟨_, rfl⟩
        obtain ⟨DL, hDL⟩ : ∃ DL, N.drop (i + 1) = DL := ⟨_, rfl⟩
        have HPL := Lib.hid hPL
        have HDL := Lib.hid hDL
        rw [hPL] at hr1 he1 hpl
        rw [hDL] at hr2 he2 hdl
        have E1 := Lib.hid he1
        have E2 := Lib.hid he2
        have HR1 := Lib.hid hr1
        have HR2 := Lib.hid (show ∀ V : World, (Instr.slice 32 (.slice (some ⟨xb, xo, none⟩) N.length c) (some (.int .i64 ((i : Int) + 1))) none none).run Tryd.prog V = .ok (.slice A2 DL.length c2) V from by simpa using hr2)
        obtain ⟨e0, he0⟩ : ∃ e0, (⟨K, l, g5, c9, mn, en⟩ : Al) = e0 := ⟨_, rfl⟩
        have HE0 := Lib.hid he0
        clear hr1 he1 hr2 he2 hPL hDL he0
        refine wp_region_N Noth (by kernel_rfl) ?_
        refine wpN_take (i := 0) (d := some 67) rfl rfl (by kernel_rfl) (by kernel_rfl) (by kernel_rfl) (fun _ _ _ h => h) (sure_value (v := .slice none 0 0) (by rfl) (fun v1 h1 => by first | rfl | (go_simp; done) | (go_simp; intro h9; exact absurd h9 (by omega)) | (go_simp; assumption))) (Only.refl _ _) ?_
        simp only [Act.put, List.setIfInBounds_toArray, List.set_cons_zero, List.set_cons_succ]
        refine wpN_take (i := 1) (d := some 68) rfl rfl (by kernel_rfl) (by kernel_rfl) (by kernel_rfl) (fun _ _ _ h => h) (sure_value (v := .pointer (some ⟨w.heap.size, 0, none⟩)) (by rfl) (fun v1 h1 => by first | rfl | (go_simp; done) | (go_simp; intro h9; exact absurd h9 (by omega)) | (go_simp; assumption))) (Only.refl _ _) ?_
        simp only [Act.put, List.setIfInBounds_toArray, List.set_cons_zero, List.set_cons_succ]
        refine wpN_take (i := 2) (d := some 69) rfl rfl (by kernel_rfl) (by kernel_rfl) (by kernel_rfl) (fun _ _ _ h => h) (sure_lit (v := .slice (some ⟨xb, xo, none⟩) N.length c) (i := 0) B1.out.drew rfl (fun h => h) (by rfl) (fun _ h => by go_simp)) (Only.refl _ _) ?_
        simp only [Act.put, List.setIfInBounds_toArray, List.set_cons_zero, List.set_cons_succ]
        refine wpN_take (i := 3) (d := some 70) rfl rfl (by kernel_rfl) (by kernel_rfl) (by kernel_rfl) (fun _ _ _ h => h) (sure_value (v := .int .i64 (i : Nat)) (by rfl) (fun v1 h1 => by first | rfl | (go_simp; done) | (go_simp; intro h9; exact absurd h9 (by omega)) | (go_simp; assumption))) (Only.refl _ _) ?_
        simp only [Act.put, List.setIfInBounds_toArray, List.set_cons_zero, List.set_cons_succ]
        refine wpN_take (i := 4) (d := some 71) rfl rfl (by kernel_rfl) (by kernel_rfl) (by kernel_rfl) (fun _ _ _ h => h) (sure_slice HR1.out (by kernel_rfl) (by rfl) rfl rfl rfl rfl) (Only.refl _ _) ?_
        simp only [Act.put, List.setIfInBounds_toArray, List.set_cons_zero, List.set_cons_succ]
        refine wpN_take (i := 6) (d := some 73) rfl rfl (by kernel_rfl) (by kernel_rfl) (by kernel_rfl) (fun _ _ _ h => h) (sure_value (v := .agg (⟨K, l, g5, c9, mn, en⟩ : Al).arr) (by rfl) (fun v1 h1 => by have hb := B2.out.only (Only.undrew h1) (fun h => h); have c0 := hb.cell 0; have c1 := hb.cell 1; have c2 := hb.cell 2; go_simp)) (Only.refl _ _) ?_
        simp only [Act.put, List.setIfInBounds_toArray, List.set_cons_zero, List.set_cons_succ]
        refine wpN_run2 (i := 5) (j := 7) (d := some 72) (d' := some 74) (RowV w7.drew PL) (OneV e0) (fun _ _ _ h ho => h.noth ho) (fun _ _ _ h ho => h.noth ho) (by kernel_rfl) (by kernel_rfl) (by kernel_rfl) (by decide) rfl rfl rfl rfl rfl rfl (by simp) (Only.refl _ _) (fun u w2 h2 => ?_) (fun u w2 h2 => ?_) ?_
        · obtain ⟨B, d, w3, hrun, hrow, ho⟩ := app_als_run w2 w2 32 (ARow.empty w2 w2 none) ((E1.out.noth (Only.undrew h2)).src) (by simp only [List.length_nil]; omega) (Only.refl _ _)
          simp only [List.nil_append] at hrun hrow
          exact ⟨_, w3, app_op rfl rfl rfl hrun, app_op rfl rfl rfl hrun, ⟨B, d, rfl, hrow.up h2.size⟩, ho.mono (fun j hj hl => by have hj : w2.heap.size ≤ j := hj; omega)⟩
        · exact ⟨.slice (some ⟨w2.heap.size, 0, none⟩) 1 1, w2.alloc (.cells (⟨K, l, g5, c9, mn, en⟩ : Al).arr 27), by go_simp, by go_simp, ⟨w2.heap.size, rfl, by rw [← HE0.out]; exact al_src (Hld.new w2 27 _)⟩, (Only.refl _ _).alloc _⟩
        rintro v u w2 ⟨B, d, rfl, hrow⟩ ⟨p, rfl, hone⟩ ho2
        have ER := Lib.hid hrow
        have EO := Lib.hid hone
        have OB := Lib.hid ho2
        clear hrow hone ho2
        simp only [Act.put, List.setIfInBounds_toArray, List.set_cons_zero, List.set_cons_succ]
        refine wpN_run1 (i := 8) (d := some 75) (RowV w7.drew (PL ++ [e0])) (by kernel_rfl) rfl rfl (by rfl) (fun w3 h3 => ?_) ?_
        · obtain ⟨B9, d9, w4, hrun, hrow, ho⟩ := app_als_run w7.drew w3 32 (ER.out.noth h3) (EO.out.only h3 (fun _ _ h => h)) (by simp only [List.length_cons, List.length_nil]; omega) (OB.out.tr h3)
          exact ⟨_, w4, app_op rfl rfl rfl hrun, ⟨B9, d9, rfl, hrow⟩, (OB.out.tr h3).trans ho (fun j hj hl => by have hj : w7.drew.heap.size ≤ j := hj; omega)⟩
        rintro v w4 ⟨B9, d9, rfl, hrow9⟩ hO4
        simp only [Act.put, List.setIfInBounds_toArray, List.set_cons_zero, List.set_cons_succ]
        refine wpN_rebase hO4 ?_
        have hpl1 : (PL ++ [e0]).length = PL.length + 1 := by simp
        refine wpN_take (i := 9) (d := some 11) rfl rfl (by kernel_rfl) (by kernel_rfl) (by kernel_rfl) (fun _ _ _ h => h) (sure_value (v := .slice B9 (PL ++ [e0]).length d9) (by rfl) (fun v1 h1 => by first | rfl | (go_simp; done) | (go_simp; intro h9; exact absurd h9 (by omega)) | (go_simp; assumption))) (Only.refl _ _) ?_
        simp only [Act.put, List.setIfInBounds_toArray, List.set_cons_zero, List.set_cons_succ]
        refine wpN_done (by kernel_rfl) (fun w6 ho => ?_) _
        have O6 := Lib.hid (show Only Noth w7 w6 from Only.undrew (only_up _ _ _ hO4 ho))
        have ER6 := Lib.hid (hrow9.noth ho)
        replace B1 := Lib.hid (B1.out.only O6.out (fun h => h))
        replace B3 := Lib.hid (B3.out.only O6.out (fun h => h))
        have E26 := Lib.hid (E2.out.noth O6.out)
        have hr2 := HR2.out
        have m0 := B1.out.cell 0
        have z6 := O6.out.size
        clear ho hO4 hrow9
        go_wp2_with (first | (at_builtin; refine wpList_app_als w7 w6 rfl (.tmp 76) (.tmp 80) rfl (l := PL ++ [e0]) (m := DL) rfl ER6.out rfl E26.out.src (by omega) O6.out ?_; intro B11 d11 M11 w11 hM hr ho; have EF := Lib.hid hr; have HM := Lib.hid hM; have HO11 := Lib.hid ho; replace B3 := Lib.hid (B3.out.only ho (fun h => by have h : w7.heap.size ≤ w.heap.size + 1 + 1 := h; have := ZB.out; omega)); clear hM hr ho) | (refine wpList_store_whole rfl rfl 40 (.tmp 4) (.tmp 82) rfl (w.heap.size + 1 + 1) rfl #[.slice B11 M11.length d11] rfl 40 _ B3.out rfl (by simp [Value.oneCell']) (by kernel_rfl) ?_; intro w9 hb9 ho9 _; have y0 := hb9.cell 0; have HO9 := Lib.hid ho9; clear hb9 ho9))
        refine bodyPost_ret (v := .tuple #[.agg #[.slice B11 M11.length d11], .int .i64 0]) (by simp [results, Tryd.results35, go_sem, *]) rfl ?_
        exact FIN.out (i + 1) e0 g5 c9 (mn) HE0.out ⟨HAS2.out, HA.out, HYES.out.2 e0 (by rw [← HE0.out]; exact HKB.out), G5.out.1, G5.out.2.1⟩ B11 d11 M11 w7 w6 w9 (by rw [HM.out, ← HPL.out, ← HDL.out]) OT.out O6.out HO11.out HO9.out EF.out PT.out ZB.out
      · have HAS2 := Lib.hid (show st = ast N l st en by rw [HAS.out, if_neg (fun h => c2 h.2)])
        have ZB := Lib.hid B3.out.lt
        go_upto_region 15 with fail
        obtain ⟨A1, hr1, he1⟩ := ls_to i RT.out.ls (by omega)
        obtain ⟨A2, c2, hr2, he2⟩ := ls_from (i + 1) RT.out.ls (by omega)
        have hpl : (N.take i).length ≤ 64 := by rw [List.length_take]; omega
        have hdl : (N.drop (i + 1)).length ≤ 64 := by rw [List.length_drop]; omega
        obtain ⟨PL, hPL⟩ : ∃ PL, N.take i = PL := ⟨_, rfl⟩
        obtain ⟨DL, hDL⟩ : ∃ DL, N.drop (i + 1) = DL := ⟨_, rfl⟩
        have HPL := Lib.hid hPL
        have HDL := Lib.hid hDL
        rw [hPL] at hr1 he1 hpl
        rw [hDL] at hr2 he2 hdl
        have E1 := Lib.hid he1
        have E2 := Lib.hid he2
        have HR1 := Lib.hid hr1
        have HR2 := Lib.hid (show ∀ V : World, (Instr.slice 32 (.slice (some ⟨xb, xo, none⟩) N.length c) (some (.int .i64 ((i : Int) + 1))) none none).run Tryd.prog V = .ok (.slice A2 DL.length c2) V from by simpa using hr2)
        obtain ⟨e0, he0⟩ : ∃ e0, (⟨K, l, g5, c9, st, en⟩ : Al) = e0 := ⟨_, rfl⟩
        have HE0 := Lib.hid he0
        clear hr1 he1 hr2 he2 hPL hDL he0
        refine wp_region_N Noth (by kernel_rfl) ?_
        refine wpN_take (i := 0) (d := some 67) rfl rfl (by kernel_rfl) (by kernel_rfl) (by kernel_rfl) (fun _ _ _ h => h) (sure_value (v := .slice none 0 0) (by rfl) (fun v1 h1 => by first | rfl | (go_simp; done) | (go_simp; intro h9; exact absurd h9 (by omega)) | (go_simp; assumption))) (Only.refl _ _) ?_
        simp only [Act.put, List.setIfInBounds_toArray, List.set_cons_zero, List.set_cons_succ]
        refine wpN_take (i := 1) (d := some 68) rfl rfl (by kernel_rfl) (by kernel_rfl) (by kernel_rfl) (fun _ _ _ h => h) (sure_value (v := .pointer (some ⟨w.heap.size, 0, none⟩)) (by rfl) (fun v1 h1 => by first | rfl | (go_simp; done) | (go_simp; intro h9; exact absurd h9 (by omega)) | (go_simp; assumption))) (Only.refl _ _) ?_
        simp only [Act.put, List.setIfInBounds_toArray, List.set_cons_zero, List.set_cons_succ]
        refine wpN_take (i := 2) (d := some 69) rfl rfl (by kernel_rfl) (by kernel_rfl) (by kernel_rfl) (fun _ _ _ h => h) (sure_lit (v := .slice (some ⟨xb, xo, none⟩) N.length c) (i := 0) B1.out.drew rfl (fun h => h) (by rfl) (fun _ h => by go_simp)) (Only.refl _ _) ?_
        simp only [Act.put, List.setIfInBounds_toArray, List.set_cons_zero, List.set_cons_succ]
        refine wpN_take (i := 3) (d := some 70) rfl rfl (by kernel_rfl) (by kernel_rfl) (by kernel_rfl) (fun _ _ _ h => h) (sure_value (v := .int .i64 (i : Nat)) (by rfl) (fun v1 h1 => by first | rfl | (go_simp; done) | (go_simp; intro h9; exact absurd h9 (by omega)) | (go_simp; assumption))) (Only.refl _ _) ?_
        simp only [Act.put, List.setIfInBounds_toArray, List.set_cons_zero, List.set_cons_succ]
        refine wpN_take (i := 4) (d := some 71) rfl rfl (by kernel_rfl) (by kernel_rfl) (by kernel_rfl) (fun _ _ _ h => h) (sure_slice HR1.out (by kernel_rfl) (by rfl) rfl rfl rfl rfl) (Only.refl _ _) ?_
        simp only [Act.put, List.setIfInBounds_toArray, List.set_cons_zero, List.set_cons_succ]
        refine wpN_take (i := 6) (d := some 73) rfl rfl (by kernel_rfl) (by kernel_rfl) (by kernel_rfl) (fun _ _ _ h => h) (sure_value (v := .agg (⟨K, l, g5, c9, st, en⟩ : Al).arr) (by rfl) (fun v1 h1 => by have hb := B2.out.only (Only.undrew h1) (fun h => h); have c0 := hb.cell 0; have c1 := hb.cell 1; have c2 := hb.cell 2; go_simp)) (Only.refl _ _) ?_
        simp only [Act.put, List.setIfInBounds_toArray, List.set_cons_zero, List.set_cons_succ]
        refine wpN_run2 (i := 5) (j := 7) (d := some 72) (d' := some 74) (RowV w5.drew PL) (OneV e0) (fun _ _ _ h ho => h.noth ho) (fun _ _ _ h ho => h.noth ho) (by kernel_rfl) (by kernel_rfl) (by kernel_rfl) (by decide) rfl rfl rfl rfl rfl rfl (by simp) (Only.refl _ _) (fun u w2 h2 => ?_) (fun u w2 h2 => ?_) ?_
        · obtain ⟨B, d, w3, hrun, hrow, ho⟩ := app_als_run w2 w2 32 (ARow.empty w2 w2 none) ((E1.out.noth (Only.undrew h2)).src) (by simp only [List.length_nil]; omega) (Only.refl _ _)
          simp only [List.nil_append] at hrun hrow
          exact ⟨_, w3, app_op rfl rfl rfl hrun, app_op rfl rfl rfl hrun, ⟨B, d, rfl, hrow.up h2.size⟩, ho.mono (fun j hj hl => by have hj : w2.heap.size ≤ j := hj; omega)⟩
        · exact ⟨.slice (some ⟨w2.heap.size, 0, none⟩) 1 1, w2.alloc (.cells (⟨K, l, g5, c9, st, en⟩ : Al).arr 27), by go_simp, by go_simp, ⟨w2.heap.size, rfl, by rw [← HE0.out]; exact al_src (Hld.new w2 27 _)⟩, (Only.refl _ _).alloc _⟩
        rintro v u w2 ⟨B, d, rfl, hrow⟩ ⟨p, rfl, hone⟩ ho2
        have ER := Lib.hid hrow
        have EO := Lib.hid hone
        have OB := Lib.hid ho2
        clear hrow hone ho2
        simp only [Act.put, List.setIfInBounds_toArray, List.set_cons_zero, List.set_cons_succ]
        refine wpN_run1 (i := 8) (d := some 75) (RowV w5.drew (PL ++ [e0])) (by kernel_rfl) rfl rfl (by rfl) (fun w3 h3 => ?_) ?_
        · obtain ⟨B9, d9, w4, hrun, hrow, ho⟩ := app_als_run w5.drew w3 32 (ER.out.noth h3) (EO.out.only h3 (fun _ _ h => h)) (by simp only [List.length_cons, List.length_nil]; omega) (OB.out.tr h3)
          exact ⟨_, w4, app_op rfl rfl rfl hrun, ⟨B9, d9, rfl, hrow⟩, (OB.out.tr h3).trans ho (fun j hj hl => by have hj : w5.drew.heap.size ≤ j := hj; omega)⟩
        rintro v w4 ⟨B9, d9, rfl, hrow9⟩ hO4
        simp only [Act.put, List.setIfInBounds_toArray, List.set_cons_zero, List.set_cons_succ]
        refine wpN_rebase hO4 ?_
        have hpl1 : (PL ++ [e0]).length = PL.length + 1 := by simp
        refine wpN_take (i := 9) (d := some 11) rfl rfl (by kernel_rfl) (by kernel_rfl) (by kernel_rfl) (fun _ _ _ h => h) (sure_value (v := .slice B9 (PL ++ [e0]).length d9) (by rfl) (fun v1 h1 => by first | rfl | (go_simp; done) | (go_simp; intro h9; exact absurd h9 (by omega)) | (go_simp; assumption))) (Only.refl _ _) ?_
        simp only [Act.put, List.setIfInBounds_toArray, List.set_cons_zero, List.set_cons_succ]
        refine wpN_done (by kernel_rfl) (fun w6 ho => ?_) _
        have O6 := Lib.hid (show Only Noth w5 w6 from Only.undrew (only_up _ _ _ hO4 ho))
        have ER6 := Lib.hid (hrow9.noth ho)
        replace B1 := Lib.hid (B1.out.only O6.out (fun h => h))
        replace B3 := Lib.hid (B3.out.only O6.out (fun h => h))
        have E26 := Lib.hid (E2.out.noth O6.out)
        have hr2 := HR2.out
        have m0 := B1.out.cell 0
        have z6 := O6.out.size
        clear ho hO4 hrow9
        go_wp2_with (first | (at_builtin; refine wpList_app_als w5 w6 rfl (.tmp 76) (.tmp 80) rfl (l := PL ++ [e0]) (m := DL) rfl ER6.out rfl E26.out.src (by omega) O6.out ?_; intro B11 d11 M11 w11 hM hr ho; have EF := Lib.hid hr; have HM := Lib.hid hM; have HO11 := Lib.hid ho; replace B3 := Lib.hid (B3.out.only ho (fun h => by have h : w5.heap.size ≤ w.heap.size + 1 + 1 := h; have := ZB.out; omega)); clear hM hr ho) | (refine wpList_store_whole rfl rfl 40 (.tmp 4) (.tmp 82) rfl (w.heap.size + 1 + 1) rfl #[.slice B11 M11.length d11] rfl 40 _ B3.out rfl (by simp [Value.oneCell']) (by kernel_rfl) ?_; intro w9 hb9 ho9 _; have y0 := hb9.cell 0; have HO9 := Lib.hid ho9; clear hb9 ho9))
        refine bodyPost_ret (v := .tuple #[.agg #[.slice B11 M11.length d11], .int .i64 0]) (by simp [results, Tryd.results35, go_sem, *]) rfl ?_
        exact FIN.out (i + 1) e0 g5 c9 (st) HE0.out ⟨HAS2.out, HA.out, HYES.out.2 e0 (by rw [← HE0.out]; exact HKB.out), G5.out.1, G5.out.2.1⟩ B11 d11 M11 w5 w6 w9 (by rw [HM.out, ← HPL.out, ← HDL.out]) OT.out O6.out HO11.out HO9.out EF.out PT.out ZB.out
    · have HAS2 := Lib.hid (show st = ast N l st en by rw [HAS.out, if_neg (fun h => c1 h.1)])
      have ZB := Lib.hid B3.out.lt
      go_upto_region 15 with fail
      obtain ⟨A1, hr1, he1⟩ := ls_to i RT.out.ls (by omega)
      obtain ⟨A2, c2, hr2, he2⟩ := ls_from (i + 1) RT.out.ls (by omega)
      have hpl : (N.take i).length ≤ 64 := by rw [List.length_take]; omega
      have hdl : (N.drop (i + 1)).length ≤ 64 := by rw [List.length_drop]; omega
      obtain ⟨PL, hPL⟩ : ∃ PL, N.take i = PL := ⟨_, rfl⟩
      obtain ⟨DL, hDL⟩ : ∃ DL, N.drop (i + 1) = DL := ⟨_, rfl⟩
      have HPL := Lib.hid hPL
      have HDL := Lib.hid hDL
      rw [hPL] at hr1 he1 hpl
      rw [hDL] at hr2 he2 hdl
      have E1 := Lib.hid he1
      have E2 := Lib.hid he2
      have HR1 := Lib.hid hr1
      have HR2 := Lib.hid (show ∀ V : World, (Instr.slice 32 (.slice (some ⟨xb, xo, none⟩) N.length c) (some (.int .i64 ((i : Int) + 1))) none none).run Tryd.prog V = .ok (.slice A2 DL.length c2) V from by simpa using hr2)
      obtain ⟨e0, he0⟩ : ∃ e0, (⟨K, l, g5, c9, st, en⟩ : Al) = e0 := ⟨_, rfl⟩
      have HE0 := Lib.hid he0
      clear hr1 he1 hr2 he2 hPL hDL he0
      refine wp_region_N Noth (by kernel_rfl) ?_
      refine wpN_take (i := 0) (d := some 67) rfl rfl (by kernel_rfl) (by kernel_rfl) (by kernel_rfl) (fun _ _ _ h => h) (sure_value (v := .slice none 0 0) (by rfl) (fun v1 h1 => by first | rfl | (go_simp; done) | (go_simp; intro h9; exact absurd h9 (by omega)) | (go_simp; assumption))) (Only.refl _ _) ?_
      simp only [Act.put, List.setIfInBounds_toArray, List.set_cons_zero, List.set_cons_succ]
      refine wpN_take (i := 1) (d := some 68) rfl rfl (by kernel_rfl) (by kernel_rfl) (by kernel_rfl) (fun _ _ _ h => h) (sure_value (v := .pointer (some ⟨w.heap.size, 0, none⟩)) (by rfl) (fun v1 h1 => by first | rfl | (go_simp; done) | (go_simp; intro h9; exact absurd h9 (by omega)) | (go_simp; assumption))) (Only.refl _ _) ?_
      simp only [Act.put, List.setIfInBounds_toArray, List.set_cons_zero, List.set_cons_succ]
      refine wpN_take (i := 2) (d := some 69) rfl rfl (by kernel_rfl) (by kernel_rfl) (by kernel_rfl) (fun _ _ _ h => h) (sure_lit (v := .slice (some ⟨xb, xo, none⟩) N.length c) (i := 0) B1.out.drew rfl (fun h => h) (by rfl) (fun _ h => by go_simp)) (Only.refl _ _) ?_
      simp only [Act.put, List.setIfInBounds_toArray, List.set_cons_zero, List.set_cons_succ]
      refine wpN_take (i := 3) (d := some 70) rfl rfl (by kernel_rfl) (by kernel_rfl) (by kernel_rfl) (fun _ _ _ h => h) (sure_value (v := .int .i64 (i : Nat)) (by rfl) (fun v1 h1 => by first | rfl | (go_simp; done) | (go_simp; intro h9; exact absurd h9 (by omega)) | (go_simp; assumption))) (Only.refl _ _) ?_
      simp only [Act.put, List.setIfInBounds_toArray, List.set_cons_zero, List.set_cons_succ]
      refine wpN_take (i := 4) (d := some 71) rfl rfl (by kernel_rfl) (by kernel_rfl) (by kernel_rfl) (fun _ _ _ h => h) (sure_slice HR1.out (by kernel_rfl) (by rfl) rfl rfl rfl rfl) (Only.refl _ _) ?_
      simp only [Act.put, List.setIfInBounds_toArray, List.set_cons_zero, List.set_cons_succ]
      refine wpN_take (i := 6) (d := some 73) rfl rfl (by kernel_rfl) (by kernel_rfl) (by kernel_rfl) (fun _ _ _ h => h) (sure_value (v := .agg (⟨K, l, g5, c9, st, en⟩ : Al).arr) (by rfl) (fun v1 h1 => by have hb := B2.out.only (Only.undrew h1) (fun h => h); have c0 := hb.cell 0; have c1 := hb.cell 1; have c2 := hb.cell 2; go_simp)) (Only.refl _ _) ?_
      simp only [Act.put, List.setIfInBounds_toArray, List.set_cons_zero, List.set_cons_succ]
      refine wpN_run2 (i := 5) (j := 7) (d := some 72) (d' := some 74) (RowV w5.drew PL) (OneV e0) (fun _ _ _ h ho => h.noth ho) (fun _ _ _ h ho => h.noth ho) (by kernel_rfl) (by kernel_rfl) (by kernel_rfl) (by decide) rfl rfl rfl rfl rfl rfl (by simp) (Only.refl _ _) (fun u w2 h2 => ?_) (fun u w2 h2 => ?_) ?_
      · obtain ⟨B, d, w3, hrun, hrow, ho⟩ := app_als_run w2 w2 32 (ARow.empty w2 w2 none) ((E1.out.noth (Only.undrew h2)).src) (by simp only [List.length_nil]; omega) (Only.refl _ _)
        simp only [List.nil_append] at hrun hrow
        exact ⟨_, w3, app_op rfl rfl rfl hrun, app_op rfl rfl rfl hrun, ⟨B, d, rfl, hrow.up h2.size⟩, ho.mono (fun j hj hl => by have hj : w2.heap.size ≤ j := hj; omega)⟩
      · exact ⟨.slice (some ⟨w2.heap.size, 0, none⟩) 1 1, w2.alloc (.cells (⟨K, l, g5, c9, st, en⟩ : Al).arr 27), by go_simp, by go_simp, ⟨w2.heap.size, rfl, by rw [← HE0.out]; exact al_src (Hld.new w2 27 _)⟩, (Only.refl _ _).alloc _⟩
      rintro v u w2 ⟨B, d, rfl, hrow⟩ ⟨p, rfl, hone⟩ ho2
      have ER := Lib.hid hrow
      have EO := Lib.hid hone
      have OB := Lib.hid ho2
      clear hrow hone ho2
      simp only [Act.put, List.setIfInBounds_toArray, List.set_cons_zero, List.set_cons_succ]
      refine wpN_run1 (i := 8) (d := some 75) (RowV w5.drew (PL ++ [e0])) (by kernel_rfl) rfl rfl (by rfl) (fun w3 h3 => ?_) ?_
      · obtain ⟨B9, d9, w4, hrun, hrow, ho⟩ := app_als_run w5.drew w3 32 (ER.out.noth h3) (EO.out.only h3 (fun _ _ h => h)) (by simp only [List.length_cons, List.length_nil]; omega) (OB.out.tr h3)
        exact ⟨_, w4, app_op rfl rfl rfl hrun, ⟨B9, d9, rfl, hrow⟩, (OB.out.tr h3).trans ho (fun j hj hl => by have hj : w5.drew.heap.size ≤ j := hj; omega)⟩
      rintro v w4 ⟨B9, d9, rfl, hrow9⟩ hO4
      simp only [Act.put, List.setIfInBounds_toArray, List.set_cons_zero, List.set_cons_succ]
      refine wpN_rebase hO4 ?_
      have hpl1 : (PL ++ [e0]).length = PL.length + 1 := by simp
      refine wpN_take (i := 9) (d := some 11) rfl rfl (by kernel_rfl) (by kernel_rfl) (by kernel_rfl) (fun _ _ _ h => h) (sure_value (v := .slice B9 (PL ++ [e0]).length d9) (by rfl) (fun v1 h1 => by first | rfl | (go_simp; done) | (go_simp; intro h9; exact absurd h9 (by omega)) | (go_simp; assumption))) (Only.refl _ _) ?_
      simp only [Act.put, List.setIfInBounds_toArray, List.set_cons_zero, List.set_cons_succ]
      refine wpN_done (by kernel_rfl) (fun w6 ho => ?_) _
      have O6 := Lib.hid (show Only Noth w5 w6 from Only.undrew (only_up _ _ _ hO4 ho))
      have ER6 := Lib.hid (hrow9.noth ho)
      replace B1 := Lib.hid (B1.out.only O6.out (fun h => h))
      replace B3 := Lib.hid (B3.out.only O6.out (fun h => h))
      have E26 := Lib.hid (E2.out.noth O6.out)
      have hr2 := HR2.out
      have m0 := B1.out.cell 0
      have z6 := O6.out.size
      clear ho hO4 hrow9
      go_wp2_with (first | (at_builtin; refine wpList_app_als w5 w6 rfl (.tmp 76) (.tmp 80) rfl (l := PL ++ [e0]) (m := DL) rfl ER6.out rfl E26.out.src (by omega) O6.out ?_; intro B11 d11 M11 w11 hM hr ho; have EF := Lib.hid hr; have HM := Lib.hid hM; have HO11 := Lib.hid ho; replace B3 := Lib.hid (B3.out.only ho (fun h => by have h : w5.heap.size ≤ w.heap.size + 1 + 1 := h; have := ZB.out; omega)); clear hM hr ho) | (refine wpList_store_whole rfl rfl 40 (.tmp 4) (.tmp 82) rfl (w.heap.size + 1 + 1) rfl #[.slice B11 M11.length d11] rfl 40 _ B3.out rfl (by simp [Value.oneCell']) (by kernel_rfl) ?_; intro w9 hb9 ho9 _; have y0 := hb9.cell 0; have HO9 := Lib.hid ho9; clear hb9 ho9))
      refine bodyPost_ret (v := .tuple #[.agg #[.slice B11 M11.length d11], .int .i64 0]) (by simp [results, Tryd.results35, go_sem, *]) rfl ?_
      exact FIN.out (i + 1) e0 g5 c9 (st) HE0.out ⟨HAS2.out, HA.out, HYES.out.2 e0 (by rw [← HE0.out]; exact HKB.out), G5.out.1, G5.out.2.1⟩ B11 d11 M11 w5 w6 w9 (by rw [HM.out, ← HPL.out, ← HDL.out]) OT.out O6.out HO11.out HO9.out EF.out PT.out ZB.out
end Go.Proofs.YtokgignmdgejoaaDoor
