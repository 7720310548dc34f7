/- The document's reader: its calls. -/
import Derived.Test.YtemeglofblnnmaaDoorRefNZ
import Derived.Test.YtemeglofblnnmaaDoorRdrFZ
namespace Go.Proofs.YtemeglofblnnmaaDoor
open Go.RowKit Go.Lib
set_option linter.unusedVariables false
set_option maxRecDepth 100000
attribute [local go_sem ↓] Go.wp_at_zero Go.wp_at_succ

/-- The value of a document's reader. -/
def Rv (w : World) (v : Value) (r : Rd) : Prop := ∃ A c, v = .agg #[.slice A r.b.length c, .int .i64 r.err] ∧ Part w (.slice A r.b.length c) r.b ∧ Rd.Sane r
theorem Rv.noth {w w' : World} {v : Value} {r : Rd} (h : Rv w v r) (ho : Only Noth w w') : Rv w' v r := by
  obtain ⟨A, c, e, hp, hs⟩ := h
  exact ⟨A, c, e, hp.noth ho, hs⟩
theorem Rv.stop (w : World) (e : Int) : Rv w (.agg #[.slice none 0 0, .int .i64 e]) (Rd.stop e) := ⟨none, 0, rfl, ⟨none, 0, rfl, Src.none_ _ _ _ _, Nat.le_refl _, by omega⟩, Rd.sane_stop e⟩
theorem Hld.at' (W : World) (t : TypeId) (cs : Array Value) (g : Nat) (hg : W.heap.size = g) : Hld (W.alloc (.cells cs t)) g t cs := by
  subst hg
  exact Hld.new W t cs
theorem Hld.two {w : World} {g : Nat} {t : TypeId} {a b : Value} (h : Hld w g t #[a, b]) : w.cell? ⟨g, 0, none⟩ = some a ∧ w.cell? ⟨g, 1, none⟩ = some b := ⟨h.cell 0, h.cell 1⟩
theorem ref_stop (e : Int) (w : World) : Calls Tryd.prog 46 #[.int .i64 e] w fun x w' => x = .returned (.agg #[.slice none 0 0, .int .i64 e]) ∧ Only Noth w w' := by
  go_enter Tryd.func46, Tryd.ntmps46
  go_wp2
  exact bodyPost_ret (v := .agg #[.slice none 0 0, .int .i64 e]) (by simp [results, Tryd.results46, go_sem]) rfl ⟨rfl, (Only.refl _ _).alloc _⟩

section
variable (v : Value) (r : Rd) (w : World) (h : Rv w v r)
include h
set_option maxHeartbeats 1000000 in
theorem ref_byte (d : UInt8) : Calls Tryd.prog 31 #[v, .int .u8 d.toNat] w fun e w' => ∃ x, e = .returned x ∧ Rv w' x (r.byte d) ∧ Only Noth w w' := by
  obtain ⟨A, c, rfl, hp, hs⟩ := h
  obtain ⟨_, _, e0, hsrc, hc1, hc2⟩ := hp
  injection e0 with e1 e2 e3
  subst e1 e3
  have SR := Lib.hid hsrc
  have SN := Lib.hid hs
  have HB := Lib.hid (Hld.at' (w.alloc (.cells #[.slice A r.b.length c, .int .i64 r.err] 64)) 64 #[.slice none 0 0, .int .i64 0] (w.heap.size + 1) (by simp))
  clear hsrc hs
  have hl : (r.b.length : Int) ≤ 9223372036854775807 := by omega
  by_cases he : r.err = 0
  · have e1 : (r.err != 0) = false := by simpa using he
    obtain ⟨b, err⟩ := r
    simp only at *
    subst he
    cases b with
    | nil =>
      have HX := Lib.hid (show (⟨[], 0⟩ : Rd).byte d = Rd.stop 3 by simp [Rd.byte])
      simp only [List.length_nil] at *
      go_enter Tryd.func31, Tryd.ntmps31
      go_wp2_with fail
      refine (ref_stop (3) _).mono ?_
      rintro e w1 ⟨rfl, ho⟩
      have HB1 := Lib.hid (HB.out.only ho (fun h => h))
      have HO := Lib.hid ho
      clear ho
      go_wp2_with (refine wpList_store_whole rfl rfl 64 (.tmp 4) (.tmp 15) rfl (w.heap.size + 1) rfl #[.slice none 0 0, .int .i64 (3)] rfl 64 _ HB1.out rfl (by simp [Value.oneCell']) (by kernel_rfl) ?_; intro w2 hb2 ho2 _; obtain ⟨y0, y1⟩ := hb2.two; have HO2 := Lib.hid ho2; clear ho2 hb2)
      refine bodyPost_ret (v := .agg #[.slice none 0 0, .int .i64 3]) (by simp [results, Tryd.results31, go_sem, y0, y1]) rfl ⟨_, rfl, ?_, ?_⟩
      · rw [HX.out]; exact Rv.stop _ _
      · exact (((((Only.refl _ _).alloc _).alloc _).tr HO.out)).trans HO2.out (fun j hj hl => absurd hl (by have : j = w.heap.size + 1 := hj; omega))
    | cons b t =>
      simp only [List.length_cons] at *
      clear hl
      have S2 := Lib.hid ((SR.out.alloc (.cells #[.slice A (t.length + 1) c, .int .i64 0] 64)).alloc (.cells #[.slice none 0 0, .int .i64 0] 64))
      obtain ⟨ad, rfl, _, _, hc⟩ := S2.out.2 (by simp)
      have d1 : ((w.alloc (.cells #[.slice (some ad) (t.length + 1) c, .int .i64 0] 64)).alloc (.cells #[.slice none 0 0, .int .i64 0] 64)).cell? ad = some (.int .u8 b.toNat) := by
        have d0 := hc 0 (.int .u8 b.toNat) rfl
        have e : ad.add 0 = ad := by unfold Addr.add; split <;> simp_all
        rw [e] at d0
        exact d0
      clear hc
      by_cases hbd : b = d
      · subst hbd
        have HX := Lib.hid (show (⟨b :: t, 0⟩ : Rd).byte b = ⟨t, 0⟩ from Rd.byte_laid b t)
        obtain ⟨A', hsl, hs3⟩ := slice_from (l := b :: t) c 1 SR.out (by simp) hc1
        simp only [show ((1 : Nat) : Int) = 1 from rfl, List.length_cons, Nat.add_sub_cancel] at hsl
        simp only [List.drop_one, List.tail_cons] at hs3
        have S3 := Lib.hid hs3
        clear hs3
        go_enter Tryd.func31, Tryd.ntmps31
        go_wp2
        refine bodyPost_ret (v := .agg #[.slice A' t.length (c - 1), .int .i64 0]) (by simp [results, Tryd.results31, go_sem]) rfl ⟨_, rfl, ?_, ((Only.refl _ _).alloc _).alloc _⟩
        rw [HX.out]
        exact Rv.noth ⟨A', c - 1, rfl, ⟨A', c - 1, rfl, S3.out, by simp only; omega, by omega⟩, Rd.sane_mk _⟩ (((Only.refl _ _).alloc _).alloc _)
      · have HX := Lib.hid (show (⟨b :: t, 0⟩ : Rd).byte d = Rd.stop 4 by simp [Rd.byte, hbd])
        have e2 : ((b.toNat : Int) != (d.toNat : Int)) = true := by simp only [bne_iff_ne, ne_eq]; intro h; exact hbd (UInt8.toNat_inj.1 (by omega))
        clear hbd
        go_enter Tryd.func31, Tryd.ntmps31
        go_wp2_with fail
        refine (ref_stop (4) _).mono ?_
        rintro e w1 ⟨rfl, ho⟩
        have HB1 := Lib.hid (HB.out.only ho (fun h => h))
        have HO := Lib.hid ho
        clear ho
        go_wp2_with (refine wpList_store_whole rfl rfl 64 (.tmp 4) (.tmp 23) rfl (w.heap.size + 1) rfl #[.slice none 0 0, .int .i64 (4)] rfl 64 _ HB1.out rfl (by simp [Value.oneCell']) (by kernel_rfl) ?_; intro w2 hb2 ho2 _; obtain ⟨y0, y1⟩ := hb2.two; have HO2 := Lib.hid ho2; clear ho2 hb2)
        refine bodyPost_ret (v := .agg #[.slice none 0 0, .int .i64 4]) (by simp [results, Tryd.results31, go_sem, y0, y1]) rfl ⟨_, rfl, ?_, ?_⟩
        · rw [HX.out]; exact Rv.stop _ _
        · exact (((((Only.refl _ _).alloc _).alloc _).tr HO.out)).trans HO2.out (fun j hj hl => absurd hl (by have : j = w.heap.size + 1 := hj; omega))
  · have e1 : (r.err != 0) = true := by simpa using he
    have HX := Lib.hid (show r.byte d = r from Rd.stopped_byte he d)
    clear he
    go_enter Tryd.func31, Tryd.ntmps31
    go_wp2
    refine bodyPost_ret (v := .agg #[.slice A r.b.length c, .int .i64 r.err]) (by simp [results, Tryd.results31, go_sem]) rfl ⟨_, rfl, ?_, ((Only.refl _ _).alloc _).alloc _⟩
    rw [HX.out]
    exact Rv.noth ⟨A, c, rfl, ⟨A, c, rfl, SR.out, hc1, hc2⟩, SN.out⟩ (((Only.refl _ _).alloc _).alloc _)
set_option maxHeartbeats 2000000 in
theorem ref_rint : Calls Tryd.prog 32 #[v] w fun e w' => ∃ x, e = .returned (.tuple #[x, .int .i64 r.int.2]) ∧ Rv w' x r.int.1 ∧ Only Noth w w' := by
  obtain ⟨A, c, rfl, hp, hs⟩ := h
  obtain ⟨_, _, e0, hsrc, hc1, hc2⟩ := hp
  injection e0 with e1 e2 e3
  subst e1 e3
  have SR := Lib.hid hsrc
  have SN := Lib.hid hs
  have HB := Lib.hid (Hld.at' (w.alloc (.cells #[.slice A r.b.length c, .int .i64 r.err] 64)) 64 #[.slice none 0 0, .int .i64 0] (w.heap.size + 1) (by simp))
  clear hsrc hs
  have hl : (r.b.length : Int) ≤ 9223372036854775807 := by omega
  by_cases he : r.err = 0
  · have e1 : (r.err != 0) = false := by simpa using he
    obtain ⟨b, err⟩ := r
    simp only at *
    subst he
    cases b with
    | nil =>
      have HX := Lib.hid (show (⟨[], 0⟩ : Rd).int = (Rd.stop 3, 0) by simp [Rd.int])
      simp only [List.length_nil] at *
      rw [HX.out]
      go_enter Tryd.func32, Tryd.ntmps32
      go_wp2_with fail
      refine (ref_stop (3) _).mono ?_
      rintro e w1 ⟨rfl, ho⟩
      have HB1 := Lib.hid (HB.out.only ho (fun h => h))
      have HO := Lib.hid ho
      clear ho
      go_wp2_with (refine wpList_store_whole rfl rfl 64 (.tmp 2) (.tmp 18) rfl (w.heap.size + 1) rfl #[.slice none 0 0, .int .i64 (3)] rfl 64 _ HB1.out rfl (by simp [Value.oneCell']) (by kernel_rfl) ?_; intro w2 hb2 ho2 _; obtain ⟨y0, y1⟩ := hb2.two; have HO2 := Lib.hid ho2; clear ho2 hb2)
      refine bodyPost_ret (v := .tuple #[.agg #[.slice none 0 0, .int .i64 3], .int .i64 0]) (by simp [results, Tryd.results32, go_sem, y0, y1]) rfl ⟨_, rfl, ?_, ?_⟩
      · exact Rv.stop _ _
      · exact (((((Only.refl _ _).alloc _).alloc _).tr HO.out)).trans HO2.out (fun j hj hl => absurd hl (by have : j = w.heap.size + 1 := hj; omega))
    | cons b t =>
      simp only [List.length_cons] at *
      clear hl
      have S2 := Lib.hid ((SR.out.alloc (.cells #[.slice A (t.length + 1) c, .int .i64 0] 64)).alloc (.cells #[.slice none 0 0, .int .i64 0] 64))
      obtain ⟨ad, rfl, _, _, hc⟩ := S2.out.2 (by simp)
      have d1 : ((w.alloc (.cells #[.slice (some ad) (t.length + 1) c, .int .i64 0] 64)).alloc (.cells #[.slice none 0 0, .int .i64 0] 64)).cell? ad = some (.int .u8 b.toNat) := by
        have d0 := hc 0 (.int .u8 b.toNat) rfl
        have e : ad.add 0 = ad := by unfold Addr.add; split <;> simp_all
        rw [e] at d0
        exact d0
      clear hc
      by_cases hbd : b = 105
      · subst hbd
        have e2 : (((105 : UInt8).toNat : Int) != 105) = false := by decide
        obtain ⟨A', hsl, hs3⟩ := slice_from (l := 105 :: t) c 1 SR.out (by simp) hc1
        simp only [show ((1 : Nat) : Int) = 1 from rfl, List.length_cons, Nat.add_sub_cancel] at hsl
        simp only [List.drop_one, List.tail_cons] at hs3
        have S3 := Lib.hid ((hs3.alloc (.cells #[.slice (some ad) (t.length + 1) c, .int .i64 0] 64)).alloc (.cells #[.slice none 0 0, .int .i64 0] 64))
        clear hs3
        have hunt := ref_until A' t.length (c - 1) t rfl 101 20 (by omega) ((w.alloc (.cells #[.slice (some ad) (t.length + 1) c, .int .i64 0] 64)).alloc (.cells #[.slice none 0 0, .int .i64 0] 64)) _ S3.out (by omega) (by omega)
        cases ha : Rd.at? t 101 20 with
        | none =>
          have hu : untilR t 101 20 = ([], if 20 < t.length then 4 else 3) := by unfold untilR; rw [ha]
          rw [hu] at hunt
          obtain ⟨E, hE⟩ : ∃ E : Int, (if 20 < t.length then 4 else 3) = E := ⟨_, rfl⟩
          have HX := Lib.hid (show (⟨105 :: t, 0⟩ : Rd).int = (Rd.stop E, 0) by simp [Rd.int, Rd.till, ha, hE])
          rw [hE] at hunt
          have e3 : (E != 0) = true := by rw [← hE]; split <;> decide
          have HU := Lib.hid hunt
          rw [HX.out]
          clear hE ha hu hunt
          go_enter Tryd.func32, Tryd.ntmps32
          go_wp2_with fail
          refine HU.out.mono ?_
          rintro e w' ⟨rfl, rfl⟩
          go_wp2_with fail
          refine (ref_stop (E) _).mono ?_
          rintro e w1 ⟨rfl, ho⟩
          have HB1 := Lib.hid (HB.out.only ho (fun h => h))
          have HO := Lib.hid ho
          clear ho
          go_wp2_with (refine wpList_store_whole rfl rfl 64 (.tmp 2) (.tmp 36) rfl (w.heap.size + 1) rfl #[.slice none 0 0, .int .i64 (E)] rfl 64 _ HB1.out rfl (by simp [Value.oneCell']) (by kernel_rfl) ?_; intro w2 hb2 ho2 _; obtain ⟨y0, y1⟩ := hb2.two; have HO2 := Lib.hid ho2; clear ho2 hb2)
          refine bodyPost_ret (v := .tuple #[.agg #[.slice none 0 0, .int .i64 E], .int .i64 0]) (by simp [results, Tryd.results32, go_sem, y0, y1]) rfl ⟨_, rfl, ?_, ?_⟩
          · exact Rv.stop _ _
          · exact (((((Only.refl _ _).alloc _).alloc _).tr HO.out)).trans HO2.out (fun j hj hl => absurd hl (by have : j = w.heap.size + 1 := hj; omega))
        | some i =>
          have hu : untilR t 101 20 = (t.take i, 0) := by unfold untilR; rw [ha]
          rw [hu] at hunt
          obtain ⟨hi20, hit, -, -, -⟩ := Rd.at_some ha
          obtain ⟨S, hS⟩ : ∃ S, ByteArray.mk (t.take i).toArray = S := ⟨_, rfl⟩
          simp only [hS] at hunt
          have hSl : S.data.toList = t.take i := by rw [← hS]
          have hSs : S.size = i := by rw [← hS, mk_size, List.length_take]; omega
          have hnum := ref_number S (by omega) ((w.alloc (.cells #[.slice (some ad) (t.length + 1) c, .int .i64 0] 64)).alloc (.cells #[.slice none 0 0, .int .i64 0] 64))
          rw [hSl] at hnum
          have HU := Lib.hid hunt
          have HN := Lib.hid hnum
          clear hS hSl hu hunt hnum
          cases hnm : num (t.take i) with
          | none =>
            have HX := Lib.hid (show (⟨105 :: t, 0⟩ : Rd).int = (Rd.stop 4, 0) by simp [Rd.int, Rd.till, ha, hnm])
            have NM := Lib.hid hnm
            rw [HX.out]
            clear ha hnm
            go_enter Tryd.func32, Tryd.ntmps32
            go_wp2_with fail
            refine HU.out.mono ?_
            rintro e w' ⟨rfl, rfl⟩
            go_wp2_with fail
            refine HN.out.mono ?_
            rintro e w' ⟨x, rfl, _, rfl⟩
            rw [NM.out]
            simp only [Option.isSome_none]
            go_wp2_with fail
            refine (ref_stop (4) _).mono ?_
            rintro e w1 ⟨rfl, ho⟩
            have HB1 := Lib.hid (HB.out.only ho (fun h => h))
            have HO := Lib.hid ho
            clear ho
            go_wp2_with (refine wpList_store_whole rfl rfl 64 (.tmp 2) (.tmp 44) rfl (w.heap.size + 1) rfl #[.slice none 0 0, .int .i64 (4)] rfl 64 _ HB1.out rfl (by simp [Value.oneCell']) (by kernel_rfl) ?_; intro w2 hb2 ho2 _; obtain ⟨y0, y1⟩ := hb2.two; have HO2 := Lib.hid ho2; clear ho2 hb2)
            refine bodyPost_ret (v := .tuple #[.agg #[.slice none 0 0, .int .i64 4], .int .i64 0]) (by simp [results, Tryd.results32, go_sem, y0, y1]) rfl ⟨_, rfl, ?_, ?_⟩
            · exact Rv.stop _ _
            · exact (((((Only.refl _ _).alloc _).alloc _).tr HO.out)).trans HO2.out (fun j hj hl => absurd hl (by have : j = w.heap.size + 1 := hj; omega))
          | some n =>
            have HX := Lib.hid (show (⟨105 :: t, 0⟩ : Rd).int = (⟨t.drop (i + 1), 0⟩, n) by simp [Rd.int, Rd.till, ha, hnm])
            have NM := Lib.hid hnm
            rw [HX.out]
            obtain ⟨A2, hsl2, hs4⟩ := slice_from (l := 105 :: t) c (i + 2) SR.out (by simp; omega) hc1
            simp only [List.length_cons] at hsl2
            simp only [List.drop_succ_cons] at hs4
            have S4 := Lib.hid hs4
            rw [show ((i + 2 : Nat) : Int) = (i : Int) + 2 by omega] at hsl2
            have hsz : (i : Int) ≤ 20 := by omega
            clear ha hnm hs4
            go_enter Tryd.func32, Tryd.ntmps32
            go_wp2_with fail
            refine HU.out.mono ?_
            rintro e w' ⟨rfl, rfl⟩
            go_wp2_with fail
            refine HN.out.mono ?_
            rintro e w' ⟨x, rfl, hxn, rfl⟩
            obtain rfl := hxn n NM.out
            clear hxn
            rw [NM.out]
            simp only [Option.isSome_some]
            go_wp2
            refine bodyPost_ret (v := .tuple #[.agg #[.slice A2 (t.length + 1 - (i + 2)) (c - (i + 2)), .int .i64 0], .int .i64 x]) (by simp [results, Tryd.results32, go_sem]) rfl ⟨_, rfl, ?_, ((Only.refl _ _).alloc _).alloc _⟩
            have hl2 : t.length + 1 - (i + 2) = (t.drop (i + 1)).length := by rw [List.length_drop]; omega
            rw [hl2]
            exact Rv.noth ⟨A2, c - (i + 2), rfl, ⟨A2, c - (i + 2), rfl, S4.out, by rw [List.length_drop]; omega, by omega⟩, Rd.sane_mk _⟩ (((Only.refl _ _).alloc _).alloc _)
      · have HX := Lib.hid (show (⟨b :: t, 0⟩ : Rd).int = (Rd.stop 4, 0) by simp [Rd.int, hbd])
        have e2 : ((b.toNat : Int) != 105) = true := by simp only [bne_iff_ne, ne_eq]; intro h; exact hbd (UInt8.toNat_inj.1 (by show b.toNat = 105; omega))
        rw [HX.out]
        clear hbd
        go_enter Tryd.func32, Tryd.ntmps32
        go_wp2_with fail
        refine (ref_stop (4) _).mono ?_
        rintro e w1 ⟨rfl, ho⟩
        have HB1 := Lib.hid (HB.out.only ho (fun h => h))
        have HO := Lib.hid ho
        clear ho
        go_wp2_with (refine wpList_store_whole rfl rfl 64 (.tmp 2) (.tmp 25) rfl (w.heap.size + 1) rfl #[.slice none 0 0, .int .i64 (4)] rfl 64 _ HB1.out rfl (by simp [Value.oneCell']) (by kernel_rfl) ?_; intro w2 hb2 ho2 _; obtain ⟨y0, y1⟩ := hb2.two; have HO2 := Lib.hid ho2; clear ho2 hb2)
        refine bodyPost_ret (v := .tuple #[.agg #[.slice none 0 0, .int .i64 4], .int .i64 0]) (by simp [results, Tryd.results32, go_sem, y0, y1]) rfl ⟨_, rfl, ?_, ?_⟩
        · exact Rv.stop _ _
        · exact (((((Only.refl _ _).alloc _).alloc _).tr HO.out)).trans HO2.out (fun j hj hl => absurd hl (by have : j = w.heap.size + 1 := hj; omega))
  · have e1 : (r.err != 0) = true := by simpa using he
    have HX := Lib.hid (show r.int = (r, 0) from Rd.stopped_int he)
    clear he
    rw [HX.out]
    go_enter Tryd.func32, Tryd.ntmps32
    go_wp2
    refine bodyPost_ret (v := .tuple #[.agg #[.slice A r.b.length c, .int .i64 r.err], .int .i64 0]) (by simp [results, Tryd.results32, go_sem]) rfl ⟨_, rfl, ?_, ((Only.refl _ _).alloc _).alloc _⟩
    exact Rv.noth ⟨A, c, rfl, ⟨A, c, rfl, SR.out, hc1, hc2⟩, SN.out⟩ (((Only.refl _ _).alloc _).alloc _)
end
end Go.Proofs.YtemeglofblnnmaaDoor
