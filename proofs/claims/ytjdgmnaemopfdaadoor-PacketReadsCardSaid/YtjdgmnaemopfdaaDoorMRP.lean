/- The reference's List: its bytes lie in new memory. -/
import Derived.Test.YtjdgmnaemopfdaaDoorRefL
import Derived.Test.YtjdgmnaemopfdaaDoorOrdC
import Derived.Test.YtjdgmnaemopfdaaDoorPkL
import Derived.Test.YtjdgmnaemopfdaaDoorPkC
import Derived.Test.YtjdgmnaemopfdaaDoorRefI
namespace Go.Proofs.YtjdgmnaemopfdaaDoor
open Go.RowKit Go.Lib
set_option linter.unusedVariables false
set_option maxRecDepth 100000
attribute [local go_sem ↓] Go.wp_at_zero Go.wp_at_succ

/-- Bytes that a call hands back, in new memory. -/
def GivenN (w : World) (l : List UInt8) (e : Ending) (w' : World) : Prop := ∃ A c, e = .returned (.slice A l.length c) ∧ Src w' (New w) 1 A l.length (byteCells l) ∧ Only Noth w w' ∧ l.length ≤ c ∧ c ≤ 9223372036854775807
theorem GivenN.p {w w' : World} {l : List UInt8} {e : Ending} (h : GivenN w l e w') : GivenP w l e w' := by
  obtain ⟨A, c, h1, h2, h3, h4, h5⟩ := h
  exact ⟨A, c, h1, ⟨A, c, rfl, h2.mono (fun _ _ h => h), h4, h5⟩, h3⟩
set_option maxHeartbeats 1000000 in
theorem ref_list_n (A0 : Option Addr) (c : Nat) (vs : List Value) (ls : List (List UInt8)) (w : World) (hs : Src w (fun k => k < w.heap.size) 1 A0 ls.length vs) (hp : Parts w vs ls) (hc0 : ls.length ≤ c) (hc1 : c ≤ 9223372036854775807)
    (hbytes : ls.flatten.length + 2 ≤ 140737488355328) :
    Calls Tryd.prog 17 #[.slice A0 ls.length c] w (GivenN w (tList ls)) := by
  have HS := Lib.hid hs
  have HP := Lib.hid hp
  have HB := Lib.hid hbytes
  have hlen : ls.length ≤ 9223372036854775807 := by omega
  have kc := fun (w : World) (C : Array Value) (n c : Nat) => Lib.run_convert_bytes_const (P := Tryd.prog) w 23 5 C n c Tryd.underlying23 Tryd.underlying5
  clear hs hp hbytes
  obtain ⟨i0, hi, hz0, hz1, hz2⟩ := info_parts b8info
  go_enter Tryd.func17, Tryd.ntmps17
  go_wp2_with fail
  clear kc
  go_loopw [3, 4] (fun v i wr => RLaid w ls v i wr) (fun _ i _ => ls.length - (RowKit.intOf i).toNat)
  case atStart =>
    refine ⟨0, 1, Nat.zero_le _, rfl, rfl, .inr ⟨w.heap.size, rfl, by omega, by decide, Nat.le_refl _, ?_⟩, (Only.refl _ _).alloc _⟩
    exact src_marked _ w.heap.size #[.int .u8 108] (1, 2) 1 rfl 5 (heap_alloc_new w _)
  case round =>
    obtain ⟨k, n, hk, rfl, hn, hrow, hon⟩ := hrel
    obtain ⟨A, cc, rfl, hnc, hcm, _⟩ := hrow.shape
    have HN := Lib.hid hn
    have HR := Lib.hid hrow
    have HO := Lib.hid hon
    have hwz : w.heap.size ≤ wr.heap.size := hon.size
    clear hn hrow hon
    by_cases hlt : k < ls.length
    · obtain ⟨l, hl⟩ : ∃ l, ls[k]? = some l := ⟨_, List.getElem?_eq_getElem hlt⟩
      obtain ⟨v, hv, Ap, cp, rfl, hps, hp1, hp2⟩ := HP.out.2 k l hl
      obtain ⟨ad, rfl, _, hlt', hc⟩ := HS.out.2 (by omega)
      have hcell : wr.cell? (ad.add k) = some (.slice Ap l.length cp) := by
        exact (HO.out.cell (p := ad.add k) (by rw [block_add]; exact hlt') (fun h => h)).trans (hc k _ hv)
      have HPS := Lib.hid ((hps.only HO.out (fun _ _ h => h)).mono (G := fun k => k < w.heap.size) (fun _ h _ => h))
      have HL := Lib.hid hl
      have hfl : n + l.length ≤ 140737488355327 := by
        have h1 := flat_take_succ HL.out
        have h2 := flat_take_le ls (k + 1)
        have h3 := HN.out
        have h4 := HB.out
        rw [h1, List.length_append] at h2
        omega
      have hb0 : (0 : Int) ≤ k := by omega
      have hb1 : (k : Int) < ls.length := by omega
      clear hps hl hv hc
      go_wp2_with (at_builtin; refine wpList_append_own' rfl (.tmp 13) (.tmp 17) 23 rfl 5 i0 (.int .u8 0) 1 1 Tryd.underlying23 hi hz0 hz1 hz2 rfl (New w) (fun k => k < w.heap.size) _ _ _ rfl HR.out Ap l.length cp (byteCells l) rfl HPS.out (cells_one l) (by simp only [maxLen]; omega) (by omega) ?_; intro v' w2 hrow honly; have HR2 := Lib.hid hrow; have HO2 := Lib.hid honly; clear hrow honly)
      go_roundw
      case rel =>
        refine ⟨k + 1, n + l.length, by omega, by go_num, ?_, ?_, ?_⟩
        · rw [flat_take_succ HL.out, List.length_append]
          have := HN.out
          omega
        · have h := HR2.out
          rw [← cells_append] at h
          rw [flat_take_succ HL.out]
          refine Own.mono (F := Plus (New w) wr w2) h (fun j hj _ => ?_)
          rcases hj with hj | hj
          · exact hj
          · show w.heap.size ≤ j; omega
        · exact HO.out.trans HO2.out (fun j hj hl => by have : w.heap.size ≤ j := hj; omega)
      case measure => simp [RowKit.intOf]; omega
    · obtain rfl : k = ls.length := by omega
      have hfl : n + 1 ≤ 140737488355328 := by
        have h1 := flat_take_le ls ls.length
        have h3 := HN.out
        have h4 := HB.out
        omega
      go_wp2_with (at_builtin; refine wpList_append_own' rfl (.tmp 19) (.tmp 20) 23 rfl 5 i0 (.int .u8 0) 1 1 Tryd.underlying23 hi hz0 hz1 hz2 rfl (New w) (New w) _ _ _ rfl (HR.out.alloc _) _ 1 1 [.int .u8 101] rfl (srcb_new wr 5 #[.int .u8 101] 1 rfl (New w) (show w.heap.size ≤ wr.heap.size by omega)) (by intro u hu; simp at hu; subst hu; rfl) (by simp only [maxLen]; omega) (by omega) ?_; intro v' w2 hrow honly; obtain ⟨A2, c2, rfl, hc3, hc4, hs2⟩ := hrow.shape; have HS2 := Lib.hid hs2; have HO2 := Lib.hid honly; clear hrow honly hs2)
      go_ret
      have hn := HN.out
      rw [List.take_of_length_le (Nat.le_refl _)] at hn
      have hl : n + 1 = (tList ls).length := by rw [hn]; simp [tList]; omega
      have hs2 := HS2.out
      rw [List.take_of_length_le (Nat.le_refl _)] at hs2
      rw [hl] at hs2 hc3 ⊢
      refine ⟨A2, c2, rfl, ?_, ?_, hc3, by simpa [maxLen] using hc4⟩
      · have e : byteCells (108 :: ls.flatten) ++ [Value.int .u8 101] = byteCells (tList ls) := by simp [tList, byteCells]
        rw [e] at hs2
        refine hs2.mono (fun j hj hl => ?_)
        rcases hj with hj | hj
        · exact hj
        · show w.heap.size ≤ j
          have h1 : wr.heap.size + 1 ≤ j := by simpa using hj.1
          omega
      · exact (HO.out.alloc _).trans HO2.out (fun j hj hl => by have : w.heap.size ≤ j := hj; omega)
section
variable {ops : Array Oper} {o : Oper} {a : Act} {w0 : World} {Q : Exit → Act → World → Prop} {md : Region.Mode}
theorem wpN_givenn {i : Nat} {d : Option Tmp} {n : Nat} {listed : Array Bool} {w : World} {f : FuncId} {args : Array Value} {L : List UInt8} (hc : ∀ w1, Only Noth w w1 → Calls Tryd.prog f args w1 (GivenN w1 L)) (hS : Only Noth w0 w)
    (hr : Region.ready md ops listed = [i]) (hi : ops[i]? = some o) (hd : o.dst = d) (hw : Region.wanted o (yielded ops a.tmps) = true) (he : ∀ w1, (execOp a.eval o).run Tryd.prog w1 = .ok (.enter f args) w1)
    (h : ∀ A c w2, Src w2 (New w) 1 A L.length (byteCells L) → L.length ≤ c ∧ c ≤ 9223372036854775807 → Only Noth w w2 → wpN Tryd.prog md ops Q Noth w2 n (listed.setIfInBounds i true) (a.put d (.slice A L.length c)) w2) : wpN Tryd.prog md ops Q Noth w0 (n + 1) listed a w := by
  refine wpN_call (T := fun v w1 w2 => ∃ A c, v = .slice A L.length c ∧ Src w2 (New w1) 1 A L.length (byteCells L) ∧ (L.length ≤ c ∧ c ≤ 9223372036854775807) ∧ Only Noth w1 w2) (fun w1 h1 => (hc w1 h1).mono ?_) hr hi hd hw he ?_
  · rintro e w' ⟨A, c, rfl, hp, ho, h4, h5⟩
    exact ⟨_, rfl, ⟨A, c, rfl, hp, ⟨h4, h5⟩, ho⟩, only_up _ _ _ (only_up _ _ _ hS h1) ho⟩
  · rintro v w1 w2 h1 ⟨A, c, rfl, hp, hb, ho⟩ h2
    refine wpN_rebase h2 (h A c w2 (hp.mono (fun k hk _ => ?_)) hb (h1.tr ho))
    have := h1.size
    unfold New at hk ⊢
    omega
end
end Go.Proofs.YtjdgmnaemopfdaaDoor
namespace Go.Proofs.YtjdgmnaemopfdaaDoor
open Go.RowKit Go.Lib
set_option linter.unusedVariables false
set_option maxRecDepth 100000
attribute [local go_sem ↓] Go.wp_at_zero Go.wp_at_succ

theorem rint_L {n : Int} {L : List UInt8} (h : tInt n = L) (w : World) (h0 : -9223372036854775808 ≤ n) (h1 : n ≤ 9223372036854775807) : Calls Tryd.prog 13 #[.int .i64 n] w (GivenP w L) := by subst h; exact ref_int n h0 h1 w
theorem rtext_L {s : ByteArray} {L : List UInt8} (h : tText s.data.toList = L) (w : World) (hs : s.size ≤ 140737488355300) : Calls Tryd.prog 15 #[.string s] w (GivenP w L) := by subst h; exact ref_text s hs w
theorem ref_okm (m : Mem) (w : World) : Calls Tryd.prog 81 #[.agg #[.int .u16 m.node, .int .u8 m.st, .int .i64 m.inc]] w
    fun e w' => e = .returned (.bool (!m.wrong)) ∧ Only Noth w w' := by
  go_enter Tryd.func81, Tryd.ntmps81
  have ON := Lib.hid ((Only.refl Noth w).alloc (.cells #[.int .u16 m.node, .int .u8 m.st, .int .i64 m.inc] 68))
  go_wp2
  all_goals go_ret
  all_goals refine ⟨ret_bool ?_, ON.out⟩
  all_goals (unfold Mem.wrong; rw [Bool.eq_iff_iff]; simp)
  all_goals omega
set_option maxHeartbeats 2000000 in
theorem ref_member (m : Mem) (hm : m.Ok) (L : List UInt8) (hL : tMem m = L) (w : World) : Calls Tryd.prog 41 #[.agg #[.int .u16 m.node, .int .u8 m.st, .int .i64 m.inc]] w (GivenN w L) := by
  have B := Lib.hid (Hld.new w 68 #[.int .u16 m.node, .int .u8 m.st, .int .i64 m.inc])
  have ON := Lib.hid ((Only.refl Noth w).alloc (.cells #[.int .u16 m.node, .int .u8 m.st, .int .i64 m.inc] 68))
  obtain ⟨L1, hL1⟩ : ∃ L, tInt m.node = L := ⟨_, rfl⟩
  obtain ⟨L2, hL2⟩ : ∃ L, tInt m.st = L := ⟨_, rfl⟩
  obtain ⟨L3, hL3⟩ : ∃ L, tInt m.inc = L := ⟨_, rfl⟩
  have LL := Lib.hid (show tList [L1, L2, L3] = L by rw [← hL, ← hL1, ← hL2, ← hL3]; rfl)
  have l1 := tInt_le m.node (by have := hm.n0; omega) (by have := hm.n1; omega)
  rw [hL1] at l1
  have l2 := tInt_le m.st (by have := hm.s0; omega) (by have := hm.s1; omega)
  rw [hL2] at l2
  have l3 := tInt_le m.inc hm.i0 hm.i1
  rw [hL3] at l3
  have LB := Lib.hid (show [L1, L2, L3].flatten.length + 2 ≤ 140737488355328 by simp; omega)
  have H1 := Lib.hid hL1
  have H2 := Lib.hid hL2
  have H3 := Lib.hid hL3
  have HWmnode := Lib.hid (show IntKind.i64.wrap m.node = m.node from IntWalk.i64_in _ (by have := hm.n0; have := hm.n1; omega))
  have HWmst := Lib.hid (show IntKind.i64.wrap m.st = m.st from IntWalk.i64_in _ (by have := hm.s0; have := hm.s1; omega))
  clear hL hL1 hL2 hL3 l1 l2 l3
  go_enter Tryd.func41, Tryd.ntmps41
  go_wp2_with fail
  refine wp_region_N Noth (by kernel_rfl) ?_
  refine wpN_take (i := 0) (d := some 3) rfl rfl (by kernel_rfl) (by kernel_rfl) (by kernel_rfl) (fun _ _ _ h => h) (sure_value (v := .pointer (some ⟨w.heap.size, 0, none⟩)) (by rfl) (fun _ _ => by go_simp)) (Only.refl _ _) ?_
  simp only [Act.put, List.setIfInBounds_toArray, List.set_cons_zero, List.set_cons_succ]
  refine wpN_take (i := 1) (d := some 4) rfl rfl (by kernel_rfl) (by kernel_rfl) (by kernel_rfl) (fun _ _ _ h => h) (sure_lit (v := .int .u16 m.node) (i := 0) B.out.drew rfl (fun h => h) (by rfl) (fun _ h => by go_simp)) (Only.refl _ _) ?_
  simp only [Act.put, List.setIfInBounds_toArray, List.set_cons_zero, List.set_cons_succ]
  refine wpN_take (i := 2) (d := some 5) rfl rfl (by kernel_rfl) (by kernel_rfl) (by kernel_rfl) (fun _ _ _ h => h) (sure_value (v := .int .i64 m.node) (by rfl) (fun _ _ => by have hw : IntKind.i64.wrap m.node = m.node := HWmnode.out; go_simp)) (Only.refl _ _) ?_
  simp only [Act.put, List.setIfInBounds_toArray, List.set_cons_zero, List.set_cons_succ]
  refine wpN_take (i := 4) (d := some 7) rfl rfl (by kernel_rfl) (by kernel_rfl) (by kernel_rfl) (fun _ _ _ h => h) (sure_value (v := .pointer (some ⟨w.heap.size, 1, none⟩)) (by rfl) (fun _ _ => by go_simp)) (Only.refl _ _) ?_
  simp only [Act.put, List.setIfInBounds_toArray, List.set_cons_zero, List.set_cons_succ]
  refine wpN_take (i := 5) (d := some 8) rfl rfl (by kernel_rfl) (by kernel_rfl) (by kernel_rfl) (fun _ _ _ h => h) (sure_lit (v := .int .u8 m.st) (i := 1) B.out.drew rfl (fun h => h) (by rfl) (fun _ h => by go_simp)) (Only.refl _ _) ?_
  simp only [Act.put, List.setIfInBounds_toArray, List.set_cons_zero, List.set_cons_succ]
  refine wpN_take (i := 6) (d := some 9) rfl rfl (by kernel_rfl) (by kernel_rfl) (by kernel_rfl) (fun _ _ _ h => h) (sure_value (v := .int .i64 m.st) (by rfl) (fun _ _ => by have hw : IntKind.i64.wrap m.st = m.st := HWmst.out; go_simp)) (Only.refl _ _) ?_
  simp only [Act.put, List.setIfInBounds_toArray, List.set_cons_zero, List.set_cons_succ]
  refine wpN_take (i := 8) (d := some 11) rfl rfl (by kernel_rfl) (by kernel_rfl) (by kernel_rfl) (fun _ _ _ h => h) (sure_value (v := .pointer (some ⟨w.heap.size, 2, none⟩)) (by rfl) (fun _ _ => by go_simp)) (Only.refl _ _) ?_
  simp only [Act.put, List.setIfInBounds_toArray, List.set_cons_zero, List.set_cons_succ]
  refine wpN_take (i := 9) (d := some 12) rfl rfl (by kernel_rfl) (by kernel_rfl) (by kernel_rfl) (fun _ _ _ h => h) (sure_lit (v := .int .i64 m.inc) (i := 2) B.out.drew rfl (fun h => h) (by rfl) (fun _ h => by go_simp)) (Only.refl _ _) ?_
  simp only [Act.put, List.setIfInBounds_toArray, List.set_cons_zero, List.set_cons_succ]
  have ON0 := Lib.hid ON.out.drew
  have P0 := Lib.hid (Parts.nil ((w.alloc (.cells #[.int .u16 m.node, .int .u8 m.st, .int .i64 m.inc] 68)).drew))
  refine wpN_givenp (i := 3) (d := some 6) (L := L1) (fun w1 ho => rint_L H1.out _ (by have := hm.n0; omega) (by have := hm.n1; omega)) (Only.refl _ _) (by kernel_rfl) rfl rfl (by rfl) (fun _ => by go_simp) ?_
  intro A1 c1 w1 hp ho
  have P1 := Lib.hid ((P0.out.noth ho).snoc hp)
  have ON1 := Lib.hid (ON0.out.tr ho)
  clear hp ho
  simp only [Act.put, List.setIfInBounds_toArray, List.set_cons_zero, List.set_cons_succ]
  refine wpN_givenp (i := 7) (d := some 10) (L := L2) (fun w1 ho => rint_L H2.out _ (by have := hm.s0; omega) (by have := hm.s1; omega)) (Only.refl _ _) (by kernel_rfl) rfl rfl (by rfl) (fun _ => by go_simp) ?_
  intro A2 c2 w2 hp ho
  have P2 := Lib.hid ((P1.out.noth ho).snoc hp)
  have ON2 := Lib.hid (ON1.out.tr ho)
  clear hp ho
  simp only [Act.put, List.setIfInBounds_toArray, List.set_cons_zero, List.set_cons_succ]
  refine wpN_givenp (i := 10) (d := some 13) (L := L3) (fun w1 ho => rint_L H3.out _ hm.i0 hm.i1) (Only.refl _ _) (by kernel_rfl) rfl rfl (by rfl) (fun _ => by go_simp) ?_
  intro A3 c3 w3 hp ho
  have P3 := Lib.hid ((P2.out.noth ho).snoc hp)
  have ON3 := Lib.hid (ON2.out.tr ho)
  clear hp ho
  simp only [Act.put, List.setIfInBounds_toArray, List.set_cons_zero, List.set_cons_succ]
  refine wpN_build (m := 3) (i := 11) (d := some 14) (z := #[.slice A1 L1.length c1, .slice A2 L2.length c2, .slice A3 L3.length c3]) (t := 23) (by kernel_rfl) rfl rfl (by rfl) (Only.refl _ _) (fun _ => by go_simp) ?_
  intro w4 p9 ho HB hp9
  simp only [Act.put, List.setIfInBounds_toArray, List.set_cons_zero, List.set_cons_succ]
  refine wpN_rebase ho ?_
  have ON4 := Lib.hid (ON3.out.tr ho)
  have PP := Lib.hid (P3.out.noth ho)
  have HBB := Lib.hid HB
  clear ho HB
  refine wpN_givenn (i := 12) (d := some 15) (L := L) (fun w1 ho => by have := ref_list_n (some ⟨p9, 0, none⟩) 3 _ [L1, L2, L3] _ (((HBB.out.src 3 rfl).only ho (fun _ _ h => h)).mono (fun k h hl => hl)) (PP.out.noth ho) (Nat.le_refl _) (by simp) LB.out; rw [LL.out] at this; exact this) (Only.refl _ _) (by kernel_rfl) rfl rfl (by rfl) (fun _ => by go_simp) ?_
  intro A9 c9 w9 hp9 hb9 ho9
  have HP9 := Lib.hid hp9
  have HB9 := Lib.hid hb9
  have ON9 := Lib.hid (ON4.out.tr ho9)
  clear hp9 hb9 ho9
  simp only [Act.put, List.setIfInBounds_toArray, List.set_cons_zero, List.set_cons_succ]
  refine wpN_take (i := 13) (d := some 2) rfl rfl (by kernel_rfl) (by kernel_rfl) (by kernel_rfl) (fun _ _ _ h => h) (sure_value (v := .slice A9 L.length c9) (by rfl) (fun _ _ => rfl)) (Only.refl _ _) ?_
  simp only [Act.put, List.setIfInBounds_toArray, List.set_cons_zero, List.set_cons_succ]
  refine wpN_done (by kernel_rfl) (fun w10 ho => ?_) _
  go_wp2
  go_ret
  have hz := ON4.out.size
  exact ⟨A9, c9, rfl, (HP9.out.only ho (fun _ _ h => h)).mono (fun j hj _ => by unfold New at hj ⊢; omega), ON9.out.tr ho, HB9.out⟩
set_option maxHeartbeats 2000000 in
theorem ref_put (x : Ent) (h : x.Ok) (hs : x.key.size + x.val.size ≤ 140737488355000) (L : List UInt8) (hL : x.bytes = L) (w : World) : Calls Tryd.prog 40 #[.agg #[.string x.key, .int .i64 x.time, .int .u16 x.org, .string x.val, .int .i64 x.til]] w (GivenN w L) := by
  have e1 : x.key.data.toList.length = x.key.size := rfl
  have e2 : x.val.data.toList.length = x.val.size := rfl
  have k1 := itoa_len20 (x.key.data.toList.length : Int) (by omega) (by omega)
  have k2 := itoa_len20 (x.val.data.toList.length : Int) (by omega) (by omega)
  have B := Lib.hid (Hld.new w 64 #[.string x.key, .int .i64 x.time, .int .u16 x.org, .string x.val, .int .i64 x.til])
  have ON := Lib.hid ((Only.refl Noth w).alloc (.cells #[.string x.key, .int .i64 x.time, .int .u16 x.org, .string x.val, .int .i64 x.til] 64))
  obtain ⟨L1, hL1⟩ : ∃ L, tText x.key.data.toList = L := ⟨_, rfl⟩
  obtain ⟨L2, hL2⟩ : ∃ L, tInt x.time = L := ⟨_, rfl⟩
  obtain ⟨L3, hL3⟩ : ∃ L, tInt x.org = L := ⟨_, rfl⟩
  obtain ⟨L4, hL4⟩ : ∃ L, tText x.val.data.toList = L := ⟨_, rfl⟩
  obtain ⟨L5, hL5⟩ : ∃ L, tInt x.til = L := ⟨_, rfl⟩
  have LL := Lib.hid (show tList [L1, L2, L3, L4, L5] = L by rw [← hL, ← hL1, ← hL2, ← hL3, ← hL4, ← hL5]; rfl)
  have l1 := tText_length x.key.data.toList
  rw [hL1] at l1
  have l2 := tInt_le x.time h.t0 h.t1
  rw [hL2] at l2
  have l3 := tInt_le x.org (by have := h.o0; omega) (by have := h.o1; omega)
  rw [hL3] at l3
  have l4 := tText_length x.val.data.toList
  rw [hL4] at l4
  have l5 := tInt_le x.til h.u0 h.u1
  rw [hL5] at l5
  have LB := Lib.hid (show [L1, L2, L3, L4, L5].flatten.length + 2 ≤ 140737488355328 by simp; omega)
  have H1 := Lib.hid hL1
  have H2 := Lib.hid hL2
  have H3 := Lib.hid hL3
  have H4 := Lib.hid hL4
  have H5 := Lib.hid hL5
  have HWxorg := Lib.hid (show IntKind.i64.wrap x.org = x.org from IntWalk.i64_in _ (by have := h.o0; have := h.o1; omega))
  clear hL hL1 hL2 hL3 hL4 hL5 l1 l2 l3 l4 l5
  go_enter Tryd.func40, Tryd.ntmps40
  go_wp2_with fail
  refine wp_region_N Noth (by kernel_rfl) ?_
  refine wpN_take (i := 0) (d := some 3) rfl rfl (by kernel_rfl) (by kernel_rfl) (by kernel_rfl) (fun _ _ _ h => h) (sure_value (v := .pointer (some ⟨w.heap.size, 0, none⟩)) (by rfl) (fun _ _ => by go_simp)) (Only.refl _ _) ?_
  simp only [Act.put, List.setIfInBounds_toArray, List.set_cons_zero, List.set_cons_succ]
  refine wpN_take (i := 1) (d := some 4) rfl rfl (by kernel_rfl) (by kernel_rfl) (by kernel_rfl) (fun _ _ _ h => h) (sure_lit (v := .string x.key) (i := 0) B.out.drew rfl (fun h => h) (by rfl) (fun _ h => by go_simp)) (Only.refl _ _) ?_
  simp only [Act.put, List.setIfInBounds_toArray, List.set_cons_zero, List.set_cons_succ]
  refine wpN_take (i := 3) (d := some 6) rfl rfl (by kernel_rfl) (by kernel_rfl) (by kernel_rfl) (fun _ _ _ h => h) (sure_value (v := .pointer (some ⟨w.heap.size, 1, none⟩)) (by rfl) (fun _ _ => by go_simp)) (Only.refl _ _) ?_
  simp only [Act.put, List.setIfInBounds_toArray, List.set_cons_zero, List.set_cons_succ]
  refine wpN_take (i := 4) (d := some 7) rfl rfl (by kernel_rfl) (by kernel_rfl) (by kernel_rfl) (fun _ _ _ h => h) (sure_lit (v := .int .i64 x.time) (i := 1) B.out.drew rfl (fun h => h) (by rfl) (fun _ h => by go_simp)) (Only.refl _ _) ?_
  simp only [Act.put, List.setIfInBounds_toArray, List.set_cons_zero, List.set_cons_succ]
  refine wpN_take (i := 6) (d := some 9) rfl rfl (by kernel_rfl) (by kernel_rfl) (by kernel_rfl) (fun _ _ _ h => h) (sure_value (v := .pointer (some ⟨w.heap.size, 2, none⟩)) (by rfl) (fun _ _ => by go_simp)) (Only.refl _ _) ?_
  simp only [Act.put, List.setIfInBounds_toArray, List.set_cons_zero, List.set_cons_succ]
  refine wpN_take (i := 7) (d := some 10) rfl rfl (by kernel_rfl) (by kernel_rfl) (by kernel_rfl) (fun _ _ _ h => h) (sure_lit (v := .int .u16 x.org) (i := 2) B.out.drew rfl (fun h => h) (by rfl) (fun _ h => by go_simp)) (Only.refl _ _) ?_
  simp only [Act.put, List.setIfInBounds_toArray, List.set_cons_zero, List.set_cons_succ]
  refine wpN_take (i := 8) (d := some 11) rfl rfl (by kernel_rfl) (by kernel_rfl) (by kernel_rfl) (fun _ _ _ h => h) (sure_value (v := .int .i64 x.org) (by rfl) (fun _ _ => by have hw : IntKind.i64.wrap x.org = x.org := HWxorg.out; go_simp)) (Only.refl _ _) ?_
  simp only [Act.put, List.setIfInBounds_toArray, List.set_cons_zero, List.set_cons_succ]
  refine wpN_take (i := 10) (d := some 13) rfl rfl (by kernel_rfl) (by kernel_rfl) (by kernel_rfl) (fun _ _ _ h => h) (sure_value (v := .pointer (some ⟨w.heap.size, 3, none⟩)) (by rfl) (fun _ _ => by go_simp)) (Only.refl _ _) ?_
  simp only [Act.put, List.setIfInBounds_toArray, List.set_cons_zero, List.set_cons_succ]
  refine wpN_take (i := 11) (d := some 14) rfl rfl (by kernel_rfl) (by kernel_rfl) (by kernel_rfl) (fun _ _ _ h => h) (sure_lit (v := .string x.val) (i := 3) B.out.drew rfl (fun h => h) (by rfl) (fun _ h => by go_simp)) (Only.refl _ _) ?_
  simp only [Act.put, List.setIfInBounds_toArray, List.set_cons_zero, List.set_cons_succ]
  refine wpN_take (i := 13) (d := some 16) rfl rfl (by kernel_rfl) (by kernel_rfl) (by kernel_rfl) (fun _ _ _ h => h) (sure_value (v := .pointer (some ⟨w.heap.size, 4, none⟩)) (by rfl) (fun _ _ => by go_simp)) (Only.refl _ _) ?_
  simp only [Act.put, List.setIfInBounds_toArray, List.set_cons_zero, List.set_cons_succ]
  refine wpN_take (i := 14) (d := some 17) rfl rfl (by kernel_rfl) (by kernel_rfl) (by kernel_rfl) (fun _ _ _ h => h) (sure_lit (v := .int .i64 x.til) (i := 4) B.out.drew rfl (fun h => h) (by rfl) (fun _ h => by go_simp)) (Only.refl _ _) ?_
  simp only [Act.put, List.setIfInBounds_toArray, List.set_cons_zero, List.set_cons_succ]
  have ON0 := Lib.hid ON.out.drew
  have P0 := Lib.hid (Parts.nil ((w.alloc (.cells #[.string x.key, .int .i64 x.time, .int .u16 x.org, .string x.val, .int .i64 x.til] 64)).drew))
  refine wpN_givenp (i := 2) (d := some 5) (L := L1) (fun w1 ho => rtext_L H1.out _ (by omega)) (Only.refl _ _) (by kernel_rfl) rfl rfl (by rfl) (fun _ => by go_simp) ?_
  intro A1 c1 w1 hp ho
  have P1 := Lib.hid ((P0.out.noth ho).snoc hp)
  have ON1 := Lib.hid (ON0.out.tr ho)
  clear hp ho
  simp only [Act.put, List.setIfInBounds_toArray, List.set_cons_zero, List.set_cons_succ]
  refine wpN_givenp (i := 5) (d := some 8) (L := L2) (fun w1 ho => rint_L H2.out _ h.t0 h.t1) (Only.refl _ _) (by kernel_rfl) rfl rfl (by rfl) (fun _ => by go_simp) ?_
  intro A2 c2 w2 hp ho
  have P2 := Lib.hid ((P1.out.noth ho).snoc hp)
  have ON2 := Lib.hid (ON1.out.tr ho)
  clear hp ho
  simp only [Act.put, List.setIfInBounds_toArray, List.set_cons_zero, List.set_cons_succ]
  refine wpN_givenp (i := 9) (d := some 12) (L := L3) (fun w1 ho => rint_L H3.out _ (by have := h.o0; omega) (by have := h.o1; omega)) (Only.refl _ _) (by kernel_rfl) rfl rfl (by rfl) (fun _ => by go_simp) ?_
  intro A3 c3 w3 hp ho
  have P3 := Lib.hid ((P2.out.noth ho).snoc hp)
  have ON3 := Lib.hid (ON2.out.tr ho)
  clear hp ho
  simp only [Act.put, List.setIfInBounds_toArray, List.set_cons_zero, List.set_cons_succ]
  refine wpN_givenp (i := 12) (d := some 15) (L := L4) (fun w1 ho => rtext_L H4.out _ (by omega)) (Only.refl _ _) (by kernel_rfl) rfl rfl (by rfl) (fun _ => by go_simp) ?_
  intro A4 c4 w4 hp ho
  have P4 := Lib.hid ((P3.out.noth ho).snoc hp)
  have ON4 := Lib.hid (ON3.out.tr ho)
  clear hp ho
  simp only [Act.put, List.setIfInBounds_toArray, List.set_cons_zero, List.set_cons_succ]
  refine wpN_givenp (i := 15) (d := some 18) (L := L5) (fun w1 ho => rint_L H5.out _ h.u0 h.u1) (Only.refl _ _) (by kernel_rfl) rfl rfl (by rfl) (fun _ => by go_simp) ?_
  intro A5 c5 w5 hp ho
  have P5 := Lib.hid ((P4.out.noth ho).snoc hp)
  have ON5 := Lib.hid (ON4.out.tr ho)
  clear hp ho
  simp only [Act.put, List.setIfInBounds_toArray, List.set_cons_zero, List.set_cons_succ]
  refine wpN_build (m := 5) (i := 16) (d := some 19) (z := #[.slice A1 L1.length c1, .slice A2 L2.length c2, .slice A3 L3.length c3, .slice A4 L4.length c4, .slice A5 L5.length c5]) (t := 23) (by kernel_rfl) rfl rfl (by rfl) (Only.refl _ _) (fun _ => by go_simp) ?_
  intro w6 p9 ho HB hp9
  simp only [Act.put, List.setIfInBounds_toArray, List.set_cons_zero, List.set_cons_succ]
  refine wpN_rebase ho ?_
  have ON6 := Lib.hid (ON5.out.tr ho)
  have PP := Lib.hid (P5.out.noth ho)
  have HBB := Lib.hid HB
  clear ho HB
  refine wpN_givenn (i := 17) (d := some 20) (L := L) (fun w1 ho => by have := ref_list_n (some ⟨p9, 0, none⟩) 5 _ [L1, L2, L3, L4, L5] _ (((HBB.out.src 5 rfl).only ho (fun _ _ h => h)).mono (fun k h hl => hl)) (PP.out.noth ho) (Nat.le_refl _) (by simp) LB.out; rw [LL.out] at this; exact this) (Only.refl _ _) (by kernel_rfl) rfl rfl (by rfl) (fun _ => by go_simp) ?_
  intro A9 c9 w9 hp9 hb9 ho9
  have HP9 := Lib.hid hp9
  have HB9 := Lib.hid hb9
  have ON9 := Lib.hid (ON6.out.tr ho9)
  clear hp9 hb9 ho9
  simp only [Act.put, List.setIfInBounds_toArray, List.set_cons_zero, List.set_cons_succ]
  refine wpN_take (i := 18) (d := some 2) rfl rfl (by kernel_rfl) (by kernel_rfl) (by kernel_rfl) (fun _ _ _ h => h) (sure_value (v := .slice A9 L.length c9) (by rfl) (fun _ _ => rfl)) (Only.refl _ _) ?_
  simp only [Act.put, List.setIfInBounds_toArray, List.set_cons_zero, List.set_cons_succ]
  refine wpN_done (by kernel_rfl) (fun w10 ho => ?_) _
  go_wp2
  go_ret
  have hz := ON6.out.size
  exact ⟨A9, c9, rfl, (HP9.out.only ho (fun _ _ h => h)).mono (fun j hj _ => by unfold New at hj ⊢; omega), ON9.out.tr ho, HB9.out⟩
end Go.Proofs.YtjdgmnaemopfdaaDoor
