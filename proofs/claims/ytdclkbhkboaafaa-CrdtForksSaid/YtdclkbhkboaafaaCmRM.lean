/- The reference's map: Merge, Get, View, Delta, Forget. -/
import Derived.Test.YtdclkbhkboaafaaCmRP
namespace Go.Proofs.Ytdclkbhkboaafaa
open Go.RowKit Go.Lib Go.Sort
set_option linter.unusedVariables false
set_option linter.unusedSimpArgs false
set_option maxRecDepth 100000
attribute [local go_sem ↓] Go.wp_at_zero Go.wp_at_succ

section
variable {P : Program}
/-- The orders of a region meet again. -/
def Meet {X : Type} (G : X → World → Prop) (f : X → Act → Act) (Q : Exit → Act → World → Prop) (a : Act) : Exit → Act → World → Prop := fun e b wx => match e with
  | .normal => ∃ x, G x wx ∧ b = f x a
  | e => Q e b wx
theorem Meet.at {X : Type} {G : X → World → Prop} {f : X → Act → Act} {Q : Exit → Act → World → Prop} {a b : Act} {wx : World} (x : X) (h : G x wx) (e : b = f x a) : Meet G f Q a .normal b wx := ⟨x, h, e⟩
theorem region_meet {id : Nat} {ops : Array Oper} {dr : Bool} {a : Act} {w : World} {Q : Exit → Act → World → Prop} {X : Type} (G : X → World → Prop) (f : X → Act → Act)
    (h : (Code.region id ops dr).wp P (Meet G f Q a) a w) (k : ∀ x wx, G x wx → Q .normal (f x a) wx) : (Code.region id ops dr).wp P Q a w :=
  wp_mono h (fun e b wx q => by
    cases e with
    | normal => obtain ⟨x, hx, rfl⟩ := q; exact k x wx hx
    | _ => exact q)
end
/-- Entries do not lie in the block of a struct whose first field is a slice. -/
theorem Ents.aside {w w' : World} {v : Value} {l : List Ent} {g n m : Nat} {t : TypeId} {A : Option Addr} (h : Ents w v l) (hb : Hld w g t #[.slice A n m]) (ho : Only (fun k => k = g) w w') : Ents w' v l := by
  refine h.only ho (fun B c hv hl bb o hA e => ?_)
  have e : bb = g := e
  subst e
  obtain ⟨A', c', hv', hel, _⟩ := h
  rw [hv] at hv'
  injection hv' with e1 _ _
  subst e1
  obtain ⟨b2, o2, hA2, _, _, hc⟩ := hel (by simpa using hl)
  rw [hA] at hA2
  injection hA2 with hA2
  injection hA2 with e2 e3
  subst e2 e3
  obtain ⟨x, hx⟩ : ∃ x, l[0]? = some x := ⟨_, List.getElem?_eq_getElem hl⟩
  have h1 := hc 0 x.cl (by rw [List.getElem?_map, hx]; rfl) 0 _ rfl
  rw [hb.cell] at h1
  rcases Nat.eq_zero_or_pos (o + 0 * 5 + 0) with h0 | h0
  · rw [h0] at h1
    cases h1
  · obtain ⟨j, hj⟩ : ∃ j, o + 0 * 5 + 0 = j + 1 := ⟨_, (Nat.succ_pred_eq_of_pos h0).symm⟩
    rw [hj] at h1
    cases h1
/-- What a map of the reference always is. -/
structure Rm (L : List Ent) : Prop where
  srt : Srt L
  ok : ∀ e ∈ L, e.check = 0
  len : L.length ≤ 256
theorem Rm.nil : Rm [] := ⟨List.Pairwise.nil, by simp, by simp⟩
theorem Rm.step {L : List Ent} (h : Rm L) (e : Ent) : Rm (cstep L e).1 := by
  refine ⟨cstep_srt h.srt, ?_, ?_⟩
  · rcases cstep_or L e with ⟨h1, _⟩ | ⟨h1, _, h2⟩
    · rw [h1]; exact h.ok
    · rw [h1]; exact cput_ok h.ok h2
  · unfold cstep
    split
    · exact h.len
    · cases hg : cget e.kb L with
      | some old =>
        simp only
        split
        · rw [cput_len h.srt, hg]; simpa using h.len
        · exact h.len
      | none =>
        simp only
        split
        · exact h.len
        · rw [cput_len h.srt, hg]; simp only [Option.isSome_none, Bool.false_eq_true, if_false]; omega
theorem Rm.filter {L : List Ent} (p : Ent → Bool) (h : Rm L) : Rm (L.filter p) := ⟨filter_srt p h.srt, fun e he => h.ok e (List.mem_filter.1 he).1, Nat.le_trans (List.length_filter_le p L) h.len⟩
theorem Rm.merge {L : List Ent} (h : Rm L) : ∀ (l : List Ent) (n : Nat), Rm (l.foldl (fun s e => ((cstep s.1 e).1, if (cstep s.1 e).2.1 then s.2 + 1 else s.2)) (L, n)).1 := by
  intro l
  induction l generalizing L with
  | nil => exact fun _ => h
  | cons a t ih =>
    intro n
    rw [List.foldl_cons]
    exact ih (h.step a) _
theorem Rm.cmerge {L : List Ent} (h : Rm L) (l : List Ent) : Rm (cmerge L l).1 := h.merge l 0
theorem CmAt.rm {w : World} {g b : Nat} {L : List Ent} (h : CmAt w g b L) : Rm L := ⟨h.srt, h.ok, h.len⟩
theorem sure_one {ops : Array Oper} {o : Oper} {a : Act} {w0 : World} {F : Nat → Prop} {g : Nat} {x : Value} {t : TypeId} (h : Hld w0 g t #[x]) (hF : ¬ F g) (hw : Region.wanted o (yielded ops a.tmps) = true)
    (he : ∀ w, w.cell? ⟨g, 0, none⟩ = some x → (execOp a.eval o).run Try.prog w = .ok (.value (.agg #[x])) w) : Sure Try.prog ops (Only Noth) (Only F w0) o (.agg #[x]) a :=
  sure_value hw (fun w1 k1 => he w1 ((h.only k1 hF).cell 0))
theorem rput_call {A : Option Addr} {c : Nat} {L : List Ent} {e : Ent} {w : World} (h1 : e.key.size ≤ 9223372036854775807) (h2 : e.val.size ≤ 9223372036854775807) (hr : Rm L) (h : Ents w (.slice A L.length c) L) :
    Calls Try.prog 15 #[.agg #[.slice A L.length c], .agg e.arr] w fun r w' => ∃ v, r = .returned v ∧ (∃ B d M, M = (cstep L e).1 ∧ v = .tuple #[.agg #[.slice B M.length d], .bool (cstep L e).2.1, .int .i64 (cstep L e).2.2] ∧ Ents w' (.slice B M.length d) M) ∧ Only Noth w w' := by
  refine (rm_put A c L e h1 h2 hr.srt hr.len w h).mono ?_
  rintro r w' ⟨⟨B, d, M, hM, rfl, he⟩, ho⟩
  exact ⟨_, rfl, ⟨B, d, M, hM, rfl, he⟩, ho⟩
def RMergeAns (s : List Ent × Nat) (e : Ending) (w : World) : Prop := ∃ B d M n, M = s.1 ∧ n = s.2 ∧ e = .returned (.tuple #[.agg #[.slice B M.length d], .int .i64 (n : Int)]) ∧ Ents w (.slice B M.length d) M
/-- At the head of Merge's loop. -/
def MgAt (w : World) (L l : List Ent) (k : Nat) (n : Value) (W : World) : Prop := ∃ B d M, M = (cmerge L (l.take k)).1 ∧ n = .int .i64 ((cmerge L (l.take k)).2 : Int) ∧ Hld W w.heap.size 28 #[.slice B M.length d] ∧ Ents W (.slice B M.length d) M
set_option maxHeartbeats 8000000 in
theorem rm_merge (A A2 : Option Addr) (c c2 : Nat) (L l : List Ent) (hs : Fit l) (hr : Rm L) (w : World) (h : Ents w (.slice A L.length c) L) (hl : Ents w (.slice A2 l.length c2) l) :
    Calls Try.prog 25 #[.agg #[.slice A L.length c], .slice A2 l.length c2] w fun r w' => RMergeAns (cmerge L l) r w' ∧ Only Noth w w' := by
  have a2 := ((Only.refl Noth w).alloc (.cells #[.slice A L.length c] 28)).alloc (.cells #[.slice none 0 0] 28)
  have B1 := Lib.hid ((Hld.new w 28 #[.slice A L.length c]).alloc (.cells #[.slice none 0 0] 28))
  have BR := Lib.hid (show Hld ((w.alloc (.cells #[.slice A L.length c] 28)).alloc (.cells #[.slice none 0 0] 28)) (w.heap.size + 1) 28 #[.slice none 0 0] by have := Hld.new (w.alloc (.cells #[.slice A L.length c] 28)) 28 #[.slice none 0 0]; simpa using this)
  have O := Lib.hid a2
  have E := Lib.hid (h.noth a2)
  have EL := Lib.hid (hl.noth a2)
  have HS := Lib.hid hs
  have HR := Lib.hid hr
  have hlen : l.length ≤ 9223372036854775807 := by obtain ⟨_, _, _, _, h1, h2⟩ := hl; omega
  have hn0 : (0 : Int) ≤ l.length := by omega
  have z0 := a2.size
  clear h hl hs hr a2
  go_enter Try.func25, Try.ntmps25
  go_wp2_with fail
  go_loopw [6, 7] (fun n i W => ∃ k : Nat, k ≤ l.length ∧ i = .int .i64 (k : Int) ∧ MgAt w L l k n W ∧ Ents W (.slice A2 l.length c2) l ∧ Hld W (w.heap.size + 1) 28 #[.slice none 0 0] ∧ Only Noth w W) (fun _ i _ => l.length - (RowKit.intOf i).toNat)
  case atStart => exact ⟨0, Nat.zero_le _, rfl, ⟨A, c, L, by simp [cmerge], by simp [cmerge], B1.out, E.out⟩, EL.out, BR.out, O.out⟩
  case round =>
    obtain ⟨k, hk, rfl, ⟨B, d, M, hM, rfl, hb, he⟩, hel, hbr, ho⟩ := hrel
    have BM := Lib.hid hb
    have EM := Lib.hid he
    have HM := Lib.hid hM
    replace EL := Lib.hid hel
    replace BR := Lib.hid hbr
    replace O := Lib.hid ho
    have RM := Lib.hid (show Rm M by rw [hM]; exact HR.out.cmerge _)
    have hk0 : (0 : Int) ≤ k := by omega
    have hcn := cmerge_le L (l.take k)
    rw [List.length_take] at hcn
    obtain ⟨n, hn⟩ : ∃ n, (cmerge L (l.take k)).2 = n := ⟨_, rfl⟩
    have HN := Lib.hid hn
    rw [hn] at hcn ⊢
    have hn2 : (0 : Int) ≤ n := by omega
    clear hb he hM hel hbr ho hn B1 E
    by_cases hlt : k < l.length
    · obtain ⟨x, hx⟩ : ∃ x, l[k]? = some x := ⟨_, List.getElem?_eq_getElem hlt⟩
      have HX := Lib.hid hx
      have XS := Lib.hid (HS.out x (List.mem_of_getElem? hx))
      obtain ⟨xb, xo, hA, hcx⟩ := EL.out.at hx
      subst hA
      have CX := Lib.hid hcx
      have hk1 : (k : Int) < l.length := by omega
      have hn1 : (n : Int) + 1 ≤ 9223372036854775807 := by omega
      clear hx hcx
      go_wp2_with fail
      refine region_meet (X := Option Addr × Nat × List Ent × Nat) (fun (B2, d2, M2, p) wx => M2 = (cstep M x).1 ∧ Hld wx p 28 #[.slice B2 M2.length d2] ∧ Ents wx (.slice B2 M2.length d2) M2 ∧ Only Noth wr wx) (fun (B2, d2, M2, p) b => (((((((((((((b.put (some 18) (.agg #[.slice B M.length d])).put (some 19) (.slice (some ⟨xb, xo, none⟩) l.length c2)).put (some 20) (.int .i64 (k : Int))).put (some 21) (.pointer (some ⟨xb, xo + k * 5, none⟩))).put (some 22) (.agg x.arr)).put (some 23) (.tuple #[.agg #[.slice B2 M2.length d2], .bool (cstep M x).2.1, .int .i64 (cstep M x).2.2])).put (some 17) (.tuple #[.agg #[.slice B2 M2.length d2], .bool (cstep M x).2.1, .int .i64 (cstep M x).2.2])).put (some 24) (.agg #[.slice B2 M2.length d2])).put (some 25) (.bool (cstep M x).2.1)).put (some 26) (.int .i64 (cstep M x).2.2)).put (some 8) (.pointer (some ⟨p, 0, none⟩))).put (some 9) (.bool (cstep M x).2.1)).put (some 10) (.int .i64 (cstep M x).2.2))) ?_ ?_
      · refine wp_region_N Noth (by kernel_rfl) ?_
        refine wpN_take (i := 0) (d := some 18) rfl rfl (by kernel_rfl) (by kernel_rfl) (by kernel_rfl) (fun _ _ _ h => h) (sure_one BM.out.drew (fun h => h) (by rfl) (fun _ h => by go_simp)) (Only.refl _ _) ?_
        simp only [Act.put, List.setIfInBounds_toArray, List.set_cons_zero, List.set_cons_succ]
        refine wpN_take (i := 1) (d := some 19) rfl rfl (by kernel_rfl) (by kernel_rfl) (by kernel_rfl) (fun _ _ _ h => h) (sure_value (v := .slice (some ⟨xb, xo, none⟩) l.length c2) (by rfl) (fun v1 h1 => by first | rfl | (go_simp; done) | (go_simp; intro h9; exact absurd h9 (by omega)) | (go_simp; assumption))) (Only.refl _ _) ?_
        simp only [Act.put, List.setIfInBounds_toArray, List.set_cons_zero, List.set_cons_succ]
        refine wpN_take (i := 2) (d := some 20) rfl rfl (by kernel_rfl) (by kernel_rfl) (by kernel_rfl) (fun _ _ _ h => h) (sure_value (v := .int .i64 (k : Int)) (by rfl) (fun v1 h1 => by first | rfl | (go_simp; done) | (go_simp; intro h9; exact absurd h9 (by omega)) | (go_simp; assumption))) (Only.refl _ _) ?_
        simp only [Act.put, List.setIfInBounds_toArray, List.set_cons_zero, List.set_cons_succ]
        refine wpN_take (i := 3) (d := some 21) rfl rfl (by kernel_rfl) (by kernel_rfl) (by kernel_rfl) (fun _ _ _ h => h) (sure_value (v := .pointer (some ⟨xb, xo + k * 5, none⟩)) (by rfl) (fun v1 h1 => by first | rfl | (go_simp; done) | (go_simp; intro h9; exact absurd h9 (by omega)) | (go_simp; assumption))) (Only.refl _ _) ?_
        simp only [Act.put, List.setIfInBounds_toArray, List.set_cons_zero, List.set_cons_succ]
        refine wpN_take (i := 4) (d := some 22) rfl rfl (by kernel_rfl) (by kernel_rfl) (by kernel_rfl) (fun _ _ _ h => h) (sure_at CX.out.drew (fun h => h) (by rfl) rfl rfl) (Only.refl _ _) ?_
        simp only [Act.put, List.setIfInBounds_toArray, List.set_cons_zero, List.set_cons_succ]
        refine wpN_ca (i := 5) (j := 10) (d := some 23) (d' := some 8) (z := #[.slice none 0 0]) (t := 28) (T := (fun v w1 w' => (∃ B2 d2 M2, M2 = (cstep M x).1 ∧ v = .tuple #[.agg #[.slice B2 M2.length d2], .bool (cstep M x).2.1, .int .i64 (cstep M x).2.2] ∧ Ents w' (.slice B2 M2.length d2) M2) ∧ Only Noth w1 w')) (fun w1 h1 => (rput_call XS.out.1 XS.out.2 RM.out (EM.out.noth (Only.undrew h1))).mono (fun r w' h => by obtain ⟨v, e1, e2, e3⟩ := h; exact ⟨v, e1, ⟨e2, e3⟩, (h1).tr e3⟩)) (by kernel_rfl) rfl rfl (by rfl) (fun _ => by go_simp) rfl rfl (by rfl) (fun _ => rfl) (Only.refl _ _) ?_ ?_
        · rintro v w1 w2 h1 ⟨⟨B2, d2, M2, hM2, rfl, he2⟩, hcall⟩ h3
          simp only [Act.put, List.setIfInBounds_toArray, List.set_cons_zero, List.set_cons_succ]
          refine wpN_take (i := 6) (d := some 17) rfl rfl (by kernel_rfl) (by kernel_rfl) (by kernel_rfl) (fun _ _ _ h => h) (sure_value (v := .tuple #[.agg #[.slice B2 M2.length d2], .bool (cstep M x).2.1, .int .i64 (cstep M x).2.2]) (by rfl) (fun v1 h1 => by first | rfl | (go_simp; done) | (go_simp; intro h9; exact absurd h9 (by omega)) | (go_simp; assumption))) h3 ?_
          simp only [Act.put, List.setIfInBounds_toArray, List.set_cons_zero, List.set_cons_succ]
          refine wpN_take (i := 7) (d := some 24) rfl rfl (by kernel_rfl) (by kernel_rfl) (by kernel_rfl) (fun _ _ _ h => h) (sure_value (v := .agg #[.slice B2 M2.length d2]) (by rfl) (fun v1 h1 => by first | rfl | (go_simp; done) | (go_simp; intro h9; exact absurd h9 (by omega)) | (go_simp; assumption))) h3 ?_
          simp only [Act.put, List.setIfInBounds_toArray, List.set_cons_zero, List.set_cons_succ]
          refine wpN_take (i := 8) (d := some 25) rfl rfl (by kernel_rfl) (by kernel_rfl) (by kernel_rfl) (fun _ _ _ h => h) (sure_value (v := .bool (cstep M x).2.1) (by rfl) (fun v1 h1 => by first | rfl | (go_simp; done) | (go_simp; intro h9; exact absurd h9 (by omega)) | (go_simp; assumption))) h3 ?_
          simp only [Act.put, List.setIfInBounds_toArray, List.set_cons_zero, List.set_cons_succ]
          refine wpN_take (i := 9) (d := some 26) rfl rfl (by kernel_rfl) (by kernel_rfl) (by kernel_rfl) (fun _ _ _ h => h) (sure_value (v := .int .i64 (cstep M x).2.2) (by rfl) (fun v1 h1 => by first | rfl | (go_simp; done) | (go_simp; intro h9; exact absurd h9 (by omega)) | (go_simp; assumption))) h3 ?_
          simp only [Act.put, List.setIfInBounds_toArray, List.set_cons_zero, List.set_cons_succ]
          refine wpN_alloc (i := 10) (d := some 8) (z := #[.slice none 0 0]) (t := 28) (by kernel_rfl) rfl rfl (by rfl) h3 (fun _ => rfl) ?_
          intro w4 p ho4 P1 hp
          simp only [Act.put, List.setIfInBounds_toArray, List.set_cons_zero, List.set_cons_succ]
          have hS4 := only_up _ _ _ h3 ho4
          refine wpN_store (i := 11) (g := p) (cs' := #[.slice B2 M2.length d2]) (by kernel_rfl) rfl (by rfl) rfl rfl rfl rfl P1 (fun h => absurd h (Nat.not_lt.2 (Nat.le_trans h3.size hp))) rfl (by simp [Value.oneCell']) (by kernel_rfl) hS4 ?_
          intro w5 w6 ho5 P2 ho6 hS6
          refine wpN_take (i := 12) (d := some 9) rfl rfl (by kernel_rfl) (by kernel_rfl) (by kernel_rfl) (fun _ _ _ h => h) (sure_value (v := .bool (cstep M x).2.1) (by rfl) (fun v1 h1 => by first | rfl | (go_simp; done) | (go_simp; intro h9; exact absurd h9 (by omega)) | (go_simp; assumption))) hS6 ?_
          simp only [Act.put, List.setIfInBounds_toArray, List.set_cons_zero, List.set_cons_succ]
          refine wpN_take (i := 13) (d := some 10) rfl rfl (by kernel_rfl) (by kernel_rfl) (by kernel_rfl) (fun _ _ _ h => h) (sure_value (v := .int .i64 (cstep M x).2.2) (by rfl) (fun v1 h1 => by first | rfl | (go_simp; done) | (go_simp; intro h9; exact absurd h9 (by omega)) | (go_simp; assumption))) hS6 ?_
          simp only [Act.put, List.setIfInBounds_toArray, List.set_cons_zero, List.set_cons_succ]
          refine wpN_done (by kernel_rfl) (fun w7 ho7 => ?_) _
          have PB := P2.only ho7 (fun h => h)
          have hW : Only Noth w2 w7 := (ho4.tr ho5).trans (ho6.trans ho7 (fun j hj _ => hj.elim)) (fun j hj hl => by have hj : j = p := hj; omega)
          have hT := Only.undrew (only_up _ _ _ hS6 ho7)
          exact Meet.at (B2, d2, M2, p) ⟨hM2, PB, he2.noth hW, hT⟩ (by simp only [Act.put, List.setIfInBounds_toArray, List.set_cons_zero, List.set_cons_succ])
        · intro w2 p ho2 P1 hp
          simp only [Act.put, List.setIfInBounds_toArray, List.set_cons_zero, List.set_cons_succ]
          refine wpN_call (i := 5) (d := some 23) (T := (fun v w1 w' => (∃ B2 d2 M2, M2 = (cstep M x).1 ∧ v = .tuple #[.agg #[.slice B2 M2.length d2], .bool (cstep M x).2.1, .int .i64 (cstep M x).2.2] ∧ Ents w' (.slice B2 M2.length d2) M2) ∧ Only Noth w1 w')) (fun w1 h1 => (rput_call XS.out.1 XS.out.2 RM.out (EM.out.noth (Only.undrew (ho2.tr h1)))).mono (fun r w' h => by obtain ⟨v, e1, e2, e3⟩ := h; exact ⟨v, e1, ⟨e2, e3⟩, ((ho2.tr h1)).tr e3⟩)) (by kernel_rfl) rfl rfl (by rfl) (fun _ => by go_simp) ?_
          rintro v w1 w3 h1 ⟨⟨B2, d2, M2, hM2, rfl, he2⟩, hcall⟩ h3
          have P3 := (P1.only h1 (fun h => h)).only hcall (fun h => h)
          simp only [Act.put, List.setIfInBounds_toArray, List.set_cons_zero, List.set_cons_succ]
          refine wpN_take (i := 6) (d := some 17) rfl rfl (by kernel_rfl) (by kernel_rfl) (by kernel_rfl) (fun _ _ _ h => h) (sure_value (v := .tuple #[.agg #[.slice B2 M2.length d2], .bool (cstep M x).2.1, .int .i64 (cstep M x).2.2]) (by rfl) (fun v1 h1 => by first | rfl | (go_simp; done) | (go_simp; intro h9; exact absurd h9 (by omega)) | (go_simp; assumption))) h3 ?_
          simp only [Act.put, List.setIfInBounds_toArray, List.set_cons_zero, List.set_cons_succ]
          refine wpN_take (i := 7) (d := some 24) rfl rfl (by kernel_rfl) (by kernel_rfl) (by kernel_rfl) (fun _ _ _ h => h) (sure_value (v := .agg #[.slice B2 M2.length d2]) (by rfl) (fun v1 h1 => by first | rfl | (go_simp; done) | (go_simp; intro h9; exact absurd h9 (by omega)) | (go_simp; assumption))) h3 ?_
          simp only [Act.put, List.setIfInBounds_toArray, List.set_cons_zero, List.set_cons_succ]
          refine wpN_take (i := 8) (d := some 25) rfl rfl (by kernel_rfl) (by kernel_rfl) (by kernel_rfl) (fun _ _ _ h => h) (sure_value (v := .bool (cstep M x).2.1) (by rfl) (fun v1 h1 => by first | rfl | (go_simp; done) | (go_simp; intro h9; exact absurd h9 (by omega)) | (go_simp; assumption))) h3 ?_
          simp only [Act.put, List.setIfInBounds_toArray, List.set_cons_zero, List.set_cons_succ]
          refine wpN_take (i := 9) (d := some 26) rfl rfl (by kernel_rfl) (by kernel_rfl) (by kernel_rfl) (fun _ _ _ h => h) (sure_value (v := .int .i64 (cstep M x).2.2) (by rfl) (fun v1 h1 => by first | rfl | (go_simp; done) | (go_simp; intro h9; exact absurd h9 (by omega)) | (go_simp; assumption))) h3 ?_
          simp only [Act.put, List.setIfInBounds_toArray, List.set_cons_zero, List.set_cons_succ]
          refine wpN_store (i := 11) (g := p) (cs' := #[.slice B2 M2.length d2]) (by kernel_rfl) rfl (by rfl) rfl rfl rfl rfl P3 (fun h => absurd h (Nat.not_lt.2 hp)) rfl (by simp [Value.oneCell']) (by kernel_rfl) h3 ?_
          intro w5 w6 ho5 P2 ho6 hS6
          refine wpN_take (i := 12) (d := some 9) rfl rfl (by kernel_rfl) (by kernel_rfl) (by kernel_rfl) (fun _ _ _ h => h) (sure_value (v := .bool (cstep M x).2.1) (by rfl) (fun v1 h1 => by first | rfl | (go_simp; done) | (go_simp; intro h9; exact absurd h9 (by omega)) | (go_simp; assumption))) hS6 ?_
          simp only [Act.put, List.setIfInBounds_toArray, List.set_cons_zero, List.set_cons_succ]
          refine wpN_take (i := 13) (d := some 10) rfl rfl (by kernel_rfl) (by kernel_rfl) (by kernel_rfl) (fun _ _ _ h => h) (sure_value (v := .int .i64 (cstep M x).2.2) (by rfl) (fun v1 h1 => by first | rfl | (go_simp; done) | (go_simp; intro h9; exact absurd h9 (by omega)) | (go_simp; assumption))) hS6 ?_
          simp only [Act.put, List.setIfInBounds_toArray, List.set_cons_zero, List.set_cons_succ]
          refine wpN_done (by kernel_rfl) (fun w7 ho7 => ?_) _
          have PB := P2.only ho7 (fun h => h)
          have hT := Only.undrew (only_up _ _ _ hS6 ho7)
          have hW : Only (fun k => k = p) w3 w7 := (ho5.mono (fun j hj _ => hj.elim)).trans (ho6.trans ho7 (fun j hj _ => hj.elim)) (fun j hj _ => hj)
          exact Meet.at (B2, d2, M2, p) ⟨hM2, PB, he2.aside P3 hW, hT⟩ (by simp only [Act.put, List.setIfInBounds_toArray, List.set_cons_zero, List.set_cons_succ])
      rintro ⟨B2, d2, M2, p⟩ w7 ⟨hM2, hpb, he2, ht⟩
      simp only [Act.put, List.setIfInBounds_toArray, List.set_cons_zero, List.set_cons_succ]
      have PB := Lib.hid hpb
      have E2 := Lib.hid he2
      replace EL := Lib.hid (EL.out.noth ht)
      replace BR := Lib.hid (BR.out.only ht (fun h => h))
      replace BM := Lib.hid (BM.out.only ht (fun h => h))
      replace O := Lib.hid (O.out.tr ht)
      have SN := Lib.hid (show cmerge L (l.take (k + 1)) = (M2, if (cstep M x).2.1 then n + 1 else n) by
        rw [List.take_add_one, HX.out, Option.toList_some, cmerge_snoc, HN.out, ← HM.out, hM2])
      clear hM2 hpb he2 ht EM
      have q0 : _ = some (Value.slice B2 M2.length d2) := PB.out.cell 0
      obtain ⟨ok, hok⟩ : ∃ ok, (cstep M x).2.1 = ok := ⟨_, rfl⟩
      obtain ⟨er, her⟩ : ∃ er, (cstep M x).2.2 = er := ⟨_, rfl⟩
      rw [hok] at SN ⊢
      rw [her]
      clear hok her
      have z1 := O.out.size
      cases ok
      · go_wp2_with (refine wpList_store_whole rfl rfl 28 (.tmp 2) (.tmp 27) rfl w.heap.size rfl #[.slice B2 M2.length d2] rfl 28 _ BM.out rfl (by simp [Value.oneCell']) (by kernel_rfl) ?_; intro w9 hb9 ho9 _; have BM9 := Lib.hid hb9; have E9 := Lib.hid (E2.out.aside BM.out ho9); have EL9 := Lib.hid (EL.out.aside BM.out ho9); have BR9 := Lib.hid (BR.out.only ho9 (fun hj => by have hj : w.heap.size + 1 = w.heap.size := hj; omega)); have O9 := Lib.hid (O.out.trans ho9 (fun j hj hl => by have hj : j = w.heap.size := hj; omega)); clear hb9 ho9)
        go_roundw
        case rel => exact ⟨k + 1, by omega, by go_num, ⟨B2, d2, M2, by rw [SN.out], by rw [SN.out]; rfl, BM9.out, E9.out⟩, EL9.out, BR9.out, O9.out⟩
        case measure => simp [RowKit.intOf]; omega
      · go_wp2_with (refine wpList_store_whole rfl rfl 28 (.tmp 2) (.tmp 27) rfl w.heap.size rfl #[.slice B2 M2.length d2] rfl 28 _ BM.out rfl (by simp [Value.oneCell']) (by kernel_rfl) ?_; intro w9 hb9 ho9 _; have BM9 := Lib.hid hb9; have E9 := Lib.hid (E2.out.aside BM.out ho9); have EL9 := Lib.hid (EL.out.aside BM.out ho9); have BR9 := Lib.hid (BR.out.only ho9 (fun hj => by have hj : w.heap.size + 1 = w.heap.size := hj; omega)); have O9 := Lib.hid (O.out.trans ho9 (fun j hj hl => by have hj : j = w.heap.size := hj; omega)); clear hb9 ho9)
        go_roundw
        case rel => exact ⟨k + 1, by omega, by go_num, ⟨B2, d2, M2, by rw [SN.out], by rw [SN.out]; simp, BM9.out, E9.out⟩, EL9.out, BR9.out, O9.out⟩
        case measure => simp [RowKit.intOf]; omega
    · obtain rfl : k = l.length := by omega
      rw [List.take_of_length_le (Nat.le_refl _)] at HM HN
      have m0 : _ = some (Value.slice B M.length d) := BM.out.cell 0
      have zb : w.heap.size ≠ w.heap.size + 1 := by omega
      go_wp2_with (refine wpList_store_whole rfl rfl 28 (.tmp 4) (.tmp 31) rfl (w.heap.size + 1) rfl #[.slice B M.length d] rfl 28 _ BR.out rfl (by simp [Value.oneCell']) (by kernel_rfl) ?_; intro w9 hb9 ho9 _; have y0 := hb9.cell 0; have E9 := Lib.hid (EM.out.aside BR.out ho9); have O9 := Lib.hid (O.out.trans ho9 (fun j hj hl => by have hj : j = w.heap.size + 1 := hj; omega)); clear hb9 ho9)
      refine bodyPost_ret (v := .tuple #[.agg #[.slice B M.length d], .int .i64 (n : Int)]) (by simp [results, Try.results25, go_sem, *]) rfl ?_
      exact ⟨⟨B, d, M, n, HM.out, HN.out.symm, rfl, E9.out⟩, O9.out⟩
set_option maxHeartbeats 8000000 in
theorem rm_get (A : Option Addr) (c : Nat) (L : List Ent) (k : ByteArray) (w : World) (h : Ents w (.slice A L.length c) L) :
    Calls Try.prog 26 #[.agg #[.slice A L.length c], .string k] w fun r w' => r = .returned (.tuple #[.agg (look k L).arr, .bool (cget k.data.toList L).isSome]) ∧ Only Noth w w' := by
  have a2 := ((Only.refl Noth w).alloc (.cells #[.slice A L.length c] 28)).alloc (.cells #[.string ⟨#[]⟩, .int .i64 0, .int .u16 0, .string ⟨#[]⟩, .int .i64 0] 34)
  have B1 := Lib.hid ((Hld.new w 28 #[.slice A L.length c]).alloc (.cells #[.string ⟨#[]⟩, .int .i64 0, .int .u16 0, .string ⟨#[]⟩, .int .i64 0] 34))
  have BR := Lib.hid (show Hld ((w.alloc (.cells #[.slice A L.length c] 28)).alloc (.cells #[.string ⟨#[]⟩, .int .i64 0, .int .u16 0, .string ⟨#[]⟩, .int .i64 0] 34)) (w.heap.size + 1) 34 #[.string ⟨#[]⟩, .int .i64 0, .int .u16 0, .string ⟨#[]⟩, .int .i64 0] by have := Hld.new (w.alloc (.cells #[.slice A L.length c] 28)) 34 #[.string ⟨#[]⟩, .int .i64 0, .int .u16 0, .string ⟨#[]⟩, .int .i64 0]; simpa using this)
  have O := Lib.hid a2
  have E := Lib.hid (h.noth a2)
  have hl0 : (0 : Int) ≤ L.length := by omega
  have hle : L.length ≤ 9223372036854775807 := by obtain ⟨_, _, _, _, h1, h2⟩ := h; omega
  clear h a2
  go_enter Try.func26, Try.ntmps26
  go_wp2_with fail
  go_loopw [6] (fun i W => ∃ n : Nat, n ≤ L.length ∧ i = .int .i64 (n : Int) ∧ (∀ x ∈ L.take n, x.kb ≠ k.data.toList) ∧ Hld W w.heap.size 28 #[.slice A L.length c] ∧ Hld W (w.heap.size + 1) 34 #[.string ⟨#[]⟩, .int .i64 0, .int .u16 0, .string ⟨#[]⟩, .int .i64 0] ∧ Ents W (.slice A L.length c) L ∧ Only Noth w W) (fun i _ => L.length - (RowKit.intOf i).toNat)
  case atStart => exact ⟨0, Nat.zero_le _, rfl, by simp, B1.out, BR.out, E.out, O.out⟩
  case round =>
    obtain ⟨n, hn, rfl, hno, hb1, hbr, he, ho⟩ := hrel
    replace B1 := Lib.hid hb1
    replace BR := Lib.hid hbr
    replace E := Lib.hid he
    replace O := Lib.hid ho
    have NO := Lib.hid hno
    have hn0 : (0 : Int) ≤ n := by omega
    have m0 : _ = some (Value.slice A L.length c) := B1.out.cell 0
    clear hb1 hbr he ho hno
    by_cases hlt : n < L.length
    · obtain ⟨x, hx⟩ : ∃ x, L[n]? = some x := ⟨_, List.getElem?_eq_getElem hlt⟩
      have HX := Lib.hid hx
      obtain ⟨xb, xo, hA, _, e0, e1, e2, e3, e4⟩ := E.out.at hx
      subst hA
      have hk1 : (n : Int) < L.length := by omega
      clear hx
      by_cases hq : x.kb = k.data.toList
      · have hq2 : (x.key.toList == k.toList) = true := by rw [beq_iff_eq, ByteArray.toList_eq, ByteArray.toList_eq]; exact hq
        have HG := Lib.hid (show cget k.data.toList L = some x from by
          unfold cget
          rw [split_at HX.out, List.find?_append, List.find?_eq_none.2 (fun y hy => by simpa using NO.out y hy), List.find?_cons]
          simp [hq])
        clear hq
        go_wp2_with (refine wpList_store_whole rfl rfl 34 (.tmp 4) (.tmp 26) rfl (w.heap.size + 1) rfl x.arr rfl 34 _ BR.out rfl (by simp [Value.oneCell']) (by kernel_rfl) ?_; intro w9 hb9 ho9 _; obtain ⟨y0, y1, y2, y3, y4⟩ := hb9.five; have O9 := Lib.hid (O.out.trans ho9 (fun j hj hl => by have hj : j = w.heap.size + 1 := hj; omega)); clear hb9 ho9)
        refine bodyPost_ret (v := .tuple #[.agg x.arr, .bool true]) (by simp [results, Try.results26, go_sem, *]) rfl ?_
        unfold look
        rw [HG.out]
        exact ⟨rfl, O9.out⟩
      · have hq2 : (x.key.toList == k.toList) = false := by rw [beq_eq_false_iff_ne, ByteArray.toList_eq, ByteArray.toList_eq]; exact hq
        have HQ := Lib.hid hq
        clear hq
        go_wp2_with fail
        go_roundw
        case rel =>
          refine ⟨n + 1, by omega, by go_num, fun y hy => ?_, B1.out, BR.out, E.out, O.out⟩
          rw [List.take_add_one, HX.out, Option.toList_some] at hy
          rcases List.mem_append.1 hy with hy | hy
          · exact NO.out y hy
          · obtain rfl : y = x := by simpa using hy
            exact HQ.out
        case measure => simp [RowKit.intOf]; omega
    · obtain rfl : n = L.length := by omega
      have HG := Lib.hid (show cget k.data.toList L = none from cget_none.2 (fun y hy => NO.out y (by rwa [List.take_of_length_le (Nat.le_refl _)])))
      go_wp2_with (refine wpList_store_whole rfl rfl 34 (.tmp 4) (.tmp 27) rfl (w.heap.size + 1) rfl Ent.none.arr rfl 34 _ BR.out rfl (by simp [Value.oneCell']) (by kernel_rfl) ?_; intro w9 hb9 ho9 _; obtain ⟨y0, y1, y2, y3, y4⟩ := hb9.five; have O9 := Lib.hid (O.out.trans ho9 (fun j hj hl => by have hj : j = w.heap.size + 1 := hj; omega)); clear hb9 ho9)
      refine bodyPost_ret (v := .tuple #[.agg Ent.none.arr, .bool false]) (by simp [results, Try.results26, go_sem, *]) rfl ?_
      unfold look
      rw [HG.out]
      exact ⟨rfl, O9.out⟩
theorem filter_snoc {p : Ent → Bool} {L : List Ent} {n : Nat} {x : Ent} (hx : L[n]? = some x) : (L.take (n + 1)).filter p = (L.take n).filter p ++ (if p x then [x] else []) := by
  rw [List.take_add_one, hx, Option.toList_some, List.filter_append]
  congr 1
  cases h : p x <;> simp [h]
set_option maxHeartbeats 8000000 in
theorem rm_view (A : Option Addr) (c : Nat) (L : List Ent) (now : Int) (hL : L.length ≤ 256) (w : World) (h : Ents w (.slice A L.length c) L) :
    Calls Try.prog 29 #[.agg #[.slice A L.length c], .int .i64 now] w fun r w' => FiltAns (L.filter fun x => decide (now < x.til)) r w' ∧ Only Noth w w' := by
  have a1 := (Only.refl Noth w).alloc (.cells #[.slice A L.length c] 28)
  have B1 := Lib.hid (Hld.new w 28 #[.slice A L.length c])
  have O1 := Lib.hid a1
  have E := Lib.hid (h.noth a1)
  have hl0 : (0 : Int) ≤ L.length := by omega
  clear h a1
  go_enter Try.func29, Try.ntmps29
  go_wp2_with fail
  go_loopw [5, 6] (fun s i W => ∃ n : Nat, n ≤ L.length ∧ i = .int .i64 (n : Int) ∧ (∃ N B d, N = (L.take n).filter (fun x => decide (now < x.til)) ∧ s = .slice B N.length d ∧ ERow (w.alloc (.cells #[.slice A L.length c] 28)) W B d N) ∧ Only Noth (w.alloc (.cells #[.slice A L.length c] 28)) W) (fun _ i _ => L.length - (RowKit.intOf i).toNat)
  case atStart => exact ⟨0, Nat.zero_le _, rfl, ⟨[], none, 0, by simp, rfl, ERow.empty _ _ _⟩, Only.refl _ _⟩
  case round =>
    obtain ⟨n, hn, rfl, ⟨N, B, d, hN, rfl, hr⟩, ho⟩ := hrel
    replace B1 := Lib.hid (B1.out.only ho (fun h => h))
    replace E := Lib.hid (E.out.noth ho)
    have O := Lib.hid ho
    have ER := Lib.hid hr
    have HN := Lib.hid hN
    have hn0 : (0 : Int) ≤ n := by omega
    have m0 : _ = some (Value.slice A L.length c) := B1.out.cell 0
    have hNl : N.length ≤ L.length := by rw [hN]; exact Nat.le_trans (List.length_filter_le _ _) (by rw [List.length_take]; omega)
    clear ho hN hr
    by_cases hlt : n < L.length
    · obtain ⟨x, hx⟩ : ∃ x, L[n]? = some x := ⟨_, List.getElem?_eq_getElem hlt⟩
      have HF := Lib.hid (filter_snoc (p := fun x => decide (now < x.til)) hx)
      obtain ⟨xb, xo, hA, _, e0, e1, e2, e3, e4⟩ := E.out.at hx
      subst hA
      have hk1 : (n : Int) < L.length := by omega
      clear hx
      by_cases hq : now < x.til
      · have HQ := Lib.hid (show (L.take (n + 1)).filter (fun x => decide (now < x.til)) = N ++ [x] by rw [HF.out, HN.out]; simp [hq])
        clear HF
        go_wp2_with (at_builtin; refine wpList_app_ents _ _ rfl (.tmp 22) (.tmp 28) rfl (l := N) (m := [x]) rfl (ER.out.noth ((Only.refl Noth wr).alloc _)) rfl (ents_one (Hld.new wr 34 x.arr)) (by simp only [List.length_cons, List.length_nil]; omega) (O.out.alloc _) ?_; intro B9 d9 M9 w9 hM hr ho; have ER9 := Lib.hid hr; have O9 := Lib.hid ho; have HM9 := Lib.hid hM; clear hr ho hM)
        go_roundw
        case rel => exact ⟨n + 1, by omega, by go_num, ⟨M9, B9, d9, by rw [HM9.out, HQ.out], rfl, ER9.out⟩, O9.out⟩
        case measure => simp [RowKit.intOf]; omega
      · have HQ := Lib.hid (show (L.take (n + 1)).filter (fun x => decide (now < x.til)) = N by rw [HF.out, HN.out]; simp [hq])
        clear HF
        go_wp2_with fail
        go_roundw
        case rel => exact ⟨n + 1, by omega, by go_num, ⟨N, B, d, HQ.out.symm, rfl, ER.out⟩, O.out⟩
        case measure => simp [RowKit.intOf]; omega
    · obtain rfl : n = L.length := by omega
      rw [List.take_of_length_le (Nat.le_refl _)] at HN
      go_wp2
      go_ret
      exact ⟨⟨N, B, d, HN.out, rfl, ER.out.ents⟩, O1.out.tr O.out⟩
end Go.Proofs.Ytdclkbhkboaafaa
