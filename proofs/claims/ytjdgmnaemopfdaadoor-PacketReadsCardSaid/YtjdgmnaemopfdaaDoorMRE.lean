/- The document's reader again: its bytes stay in blocks of S (printed by gen_rin.py out of RefR and RefT). -/
import Derived.Test.YtjdgmnaemopfdaaDoorRefN
import Derived.Test.YtjdgmnaemopfdaaDoorRdrF
import Derived.Test.YtjdgmnaemopfdaaDoorRefR
import Derived.Test.YtjdgmnaemopfdaaDoorOrdB
import Derived.Test.YtjdgmnaemopfdaaDoorRefT
import Derived.Test.YtjdgmnaemopfdaaDoorPkE
import Derived.Test.YtjdgmnaemopfdaaDoorReadB
namespace Go.Proofs.YtjdgmnaemopfdaaDoor.In
open Go.RowKit Go.Lib
set_option linter.unusedVariables false
set_option maxRecDepth 100000
attribute [local go_sem ↓] Go.wp_at_zero Go.wp_at_succ

def Part (S : Nat → Prop) (w : World) (v : Value) (l : List UInt8) : Prop := ∃ A c, v = .slice A l.length c ∧ Src w S 1 A l.length (byteCells l) ∧ l.length ≤ c ∧ c ≤ 9223372036854775807
theorem Part.only {S F : Nat → Prop} {w w' : World} {v : Value} {l : List UInt8} (h : Part S w v l) (ho : Only F w w') (hSF : ∀ k, S k → ¬ F k) : Part S w' v l := by
  obtain ⟨A, c, e, h1, h2⟩ := h
  exact ⟨A, c, e, h1.only ho hSF, h2⟩
theorem Part.noth {S : Nat → Prop} {w w' : World} {v : Value} {l : List UInt8} (h : Part S w v l) (ho : Only Noth w w') : Part S w' v l := h.only ho (fun _ _ h => h)
theorem Part.out {S : Nat → Prop} {w : World} {v : Value} {l : List UInt8} (h : Part S w v l) : Go.Proofs.YtjdgmnaemopfdaaDoor.Part w v l := by
  obtain ⟨A, c, e, h1, h2⟩ := h
  exact ⟨A, c, e, h1.mono (fun _ _ h => h), h2⟩
/-- The value of a document's reader. -/
def Rv (S : Nat → Prop) (w : World) (v : Value) (r : Rd) : Prop := ∃ A c, v = .agg #[.slice A r.b.length c, .int .i64 r.err] ∧ Part S w (.slice A r.b.length c) r.b ∧ Rd.Sane r
theorem Rv.noth {S : Nat → Prop} {w w' : World} {v : Value} {r : Rd} (h : Rv S w v r) (ho : Only Noth w w') : Rv S w' v r := by
  obtain ⟨A, c, e, hp, hs⟩ := h
  exact ⟨A, c, e, hp.noth ho, hs⟩
theorem Rv.stop (S : Nat → Prop) (w : World) (e : Int) : Rv S w (.agg #[.slice none 0 0, .int .i64 e]) (Rd.stop e) := ⟨none, 0, rfl, ⟨none, 0, rfl, Src.none_ _ _ _ _, Nat.le_refl _, by omega⟩, Rd.sane_stop e⟩
section
variable (S : Nat → Prop) (v : Value) (r : Rd) (w : World) (h : Rv S w v r)
include h
set_option maxHeartbeats 1000000 in
theorem ref_byte (d : UInt8) : Calls Tryd.prog 49 #[v, .int .u8 d.toNat] w fun e w' => ∃ x, e = .returned x ∧ Rv S w' x (r.byte d) ∧ Only Noth w w' := by
  obtain ⟨A, c, rfl, hp, hs⟩ := h
  obtain ⟨_, _, e0, hsrc, hc1, hc2⟩ := hp
  injection e0 with e1 e2 e3
  subst e1 e3
  have SR := Lib.hid hsrc
  have SN := Lib.hid hs
  have HB := Lib.hid (Hld.at' (w.alloc (.cells #[.slice A r.b.length c, .int .i64 r.err] 40)) 40 #[.slice none 0 0, .int .i64 0] (w.heap.size + 1) (by simp))
  clear hsrc hs
  have hl : (r.b.length : Int) ≤ 9223372036854775807 := by omega
  by_cases he : r.err = 0
  · have e1 : (r.err != 0) = false := by simpa using he
    obtain ⟨b, err⟩ := r
    simp only at *
    subst he
    cases b with
    | nil =>
      have HX := Lib.hid (show (⟨[], 0⟩ : Rd).byte d = Rd.stop 3 by simp [Rd.byte])
      simp only [List.length_nil] at *
      go_enter Tryd.func49, Tryd.ntmps49
      go_wp2_with fail
      refine (ref_stop (3) _).mono ?_
      rintro e w1 ⟨rfl, ho⟩
      have HB1 := Lib.hid (HB.out.only ho (fun h => h))
      have HO := Lib.hid ho
      clear ho
      go_wp2_with (refine wpList_store_whole rfl rfl 40 (.tmp 4) (.tmp 15) rfl (w.heap.size + 1) rfl #[.slice none 0 0, .int .i64 (3)] rfl 40 _ HB1.out rfl (by simp [Value.oneCell']) (by kernel_rfl) ?_; intro w2 hb2 ho2 _; obtain ⟨y0, y1⟩ := hb2.two; have HO2 := Lib.hid ho2; clear ho2 hb2)
      refine bodyPost_ret (v := .agg #[.slice none 0 0, .int .i64 3]) (by simp [results, Tryd.results49, go_sem, y0, y1]) rfl ⟨_, rfl, ?_, ?_⟩
      · rw [HX.out]; exact Rv.stop _ _ _
      · exact (((((Only.refl _ _).alloc _).alloc _).tr HO.out)).trans HO2.out (fun j hj hl => absurd hl (by have : j = w.heap.size + 1 := hj; omega))
    | cons b t =>
      simp only [List.length_cons] at *
      clear hl
      have S2 := Lib.hid ((SR.out.alloc (.cells #[.slice A (t.length + 1) c, .int .i64 0] 40)).alloc (.cells #[.slice none 0 0, .int .i64 0] 40))
      obtain ⟨ad, rfl, _, _, hc⟩ := S2.out.2 (by simp)
      have d1 : ((w.alloc (.cells #[.slice (some ad) (t.length + 1) c, .int .i64 0] 40)).alloc (.cells #[.slice none 0 0, .int .i64 0] 40)).cell? ad = some (.int .u8 b.toNat) := by
        have d0 := hc 0 (.int .u8 b.toNat) rfl
        have e : ad.add 0 = ad := by unfold Addr.add; split <;> simp_all
        rw [e] at d0
        exact d0
      clear hc
      by_cases hbd : b = d
      · subst hbd
        have HX := Lib.hid (show (⟨b :: t, 0⟩ : Rd).byte b = ⟨t, 0⟩ from Rd.byte_laid b t)
        obtain ⟨A', hsl, hs3⟩ := slice_from (l := b :: t) c 1 SR.out (by simp) hc1
        simp only [show ((1 : Nat) : Int) = 1 from rfl, List.length_cons, Nat.add_sub_cancel] at hsl
        simp only [List.drop_one, List.tail_cons] at hs3
        have S3 := Lib.hid hs3
        clear hs3
        go_enter Tryd.func49, Tryd.ntmps49
        go_wp2
        refine bodyPost_ret (v := .agg #[.slice A' t.length (c - 1), .int .i64 0]) (by simp [results, Tryd.results49, go_sem]) rfl ⟨_, rfl, ?_, ((Only.refl _ _).alloc _).alloc _⟩
        rw [HX.out]
        exact Rv.noth ⟨A', c - 1, rfl, ⟨A', c - 1, rfl, S3.out, by simp only; omega, by omega⟩, Rd.sane_mk _⟩ (((Only.refl _ _).alloc _).alloc _)
      · have HX := Lib.hid (show (⟨b :: t, 0⟩ : Rd).byte d = Rd.stop 4 by simp [Rd.byte, hbd])
        have e2 : ((b.toNat : Int) != (d.toNat : Int)) = true := by simp only [bne_iff_ne, ne_eq]; intro h; exact hbd (UInt8.toNat_inj.1 (by omega))
        clear hbd
        go_enter Tryd.func49, Tryd.ntmps49
        go_wp2_with fail
        refine (ref_stop (4) _).mono ?_
        rintro e w1 ⟨rfl, ho⟩
        have HB1 := Lib.hid (HB.out.only ho (fun h => h))
        have HO := Lib.hid ho
        clear ho
        go_wp2_with (refine wpList_store_whole rfl rfl 40 (.tmp 4) (.tmp 23) rfl (w.heap.size + 1) rfl #[.slice none 0 0, .int .i64 (4)] rfl 40 _ HB1.out rfl (by simp [Value.oneCell']) (by kernel_rfl) ?_; intro w2 hb2 ho2 _; obtain ⟨y0, y1⟩ := hb2.two; have HO2 := Lib.hid ho2; clear ho2 hb2)
        refine bodyPost_ret (v := .agg #[.slice none 0 0, .int .i64 4]) (by simp [results, Tryd.results49, go_sem, y0, y1]) rfl ⟨_, rfl, ?_, ?_⟩
        · rw [HX.out]; exact Rv.stop _ _ _
        · exact (((((Only.refl _ _).alloc _).alloc _).tr HO.out)).trans HO2.out (fun j hj hl => absurd hl (by have : j = w.heap.size + 1 := hj; omega))
  · have e1 : (r.err != 0) = true := by simpa using he
    have HX := Lib.hid (show r.byte d = r from Rd.stopped_byte he d)
    clear he
    go_enter Tryd.func49, Tryd.ntmps49
    go_wp2
    refine bodyPost_ret (v := .agg #[.slice A r.b.length c, .int .i64 r.err]) (by simp [results, Tryd.results49, go_sem]) rfl ⟨_, rfl, ?_, ((Only.refl _ _).alloc _).alloc _⟩
    rw [HX.out]
    exact Rv.noth ⟨A, c, rfl, ⟨A, c, rfl, SR.out, hc1, hc2⟩, SN.out⟩ (((Only.refl _ _).alloc _).alloc _)
set_option maxHeartbeats 2000000 in
theorem ref_rint : Calls Tryd.prog 47 #[v] w fun e w' => ∃ x, e = .returned (.tuple #[x, .int .i64 r.int.2]) ∧ Rv S w' x r.int.1 ∧ Only Noth w w' := by
  obtain ⟨A, c, rfl, hp, hs⟩ := h
  obtain ⟨_, _, e0, hsrc, hc1, hc2⟩ := hp
  injection e0 with e1 e2 e3
  subst e1 e3
  have SR := Lib.hid hsrc
  have SN := Lib.hid hs
  have HB := Lib.hid (Hld.at' (w.alloc (.cells #[.slice A r.b.length c, .int .i64 r.err] 40)) 40 #[.slice none 0 0, .int .i64 0] (w.heap.size + 1) (by simp))
  clear hsrc hs
  have hl : (r.b.length : Int) ≤ 9223372036854775807 := by omega
  by_cases he : r.err = 0
  · have e1 : (r.err != 0) = false := by simpa using he
    obtain ⟨b, err⟩ := r
    simp only at *
    subst he
    cases b with
    | nil =>
      have HX := Lib.hid (show (⟨[], 0⟩ : Rd).int = (Rd.stop 3, 0) by simp [Rd.int])
      simp only [List.length_nil] at *
      rw [HX.out]
      go_enter Tryd.func47, Tryd.ntmps47
      go_wp2_with fail
      refine (ref_stop (3) _).mono ?_
      rintro e w1 ⟨rfl, ho⟩
      have HB1 := Lib.hid (HB.out.only ho (fun h => h))
      have HO := Lib.hid ho
      clear ho
      go_wp2_with (refine wpList_store_whole rfl rfl 40 (.tmp 2) (.tmp 18) rfl (w.heap.size + 1) rfl #[.slice none 0 0, .int .i64 (3)] rfl 40 _ HB1.out rfl (by simp [Value.oneCell']) (by kernel_rfl) ?_; intro w2 hb2 ho2 _; obtain ⟨y0, y1⟩ := hb2.two; have HO2 := Lib.hid ho2; clear ho2 hb2)
      refine bodyPost_ret (v := .tuple #[.agg #[.slice none 0 0, .int .i64 3], .int .i64 0]) (by simp [results, Tryd.results47, go_sem, y0, y1]) rfl ⟨_, rfl, ?_, ?_⟩
      · exact Rv.stop _ _ _
      · exact (((((Only.refl _ _).alloc _).alloc _).tr HO.out)).trans HO2.out (fun j hj hl => absurd hl (by have : j = w.heap.size + 1 := hj; omega))
    | cons b t =>
      simp only [List.length_cons] at *
      clear hl
      have S2 := Lib.hid ((SR.out.alloc (.cells #[.slice A (t.length + 1) c, .int .i64 0] 40)).alloc (.cells #[.slice none 0 0, .int .i64 0] 40))
      obtain ⟨ad, rfl, _, _, hc⟩ := S2.out.2 (by simp)
      have d1 : ((w.alloc (.cells #[.slice (some ad) (t.length + 1) c, .int .i64 0] 40)).alloc (.cells #[.slice none 0 0, .int .i64 0] 40)).cell? ad = some (.int .u8 b.toNat) := by
        have d0 := hc 0 (.int .u8 b.toNat) rfl
        have e : ad.add 0 = ad := by unfold Addr.add; split <;> simp_all
        rw [e] at d0
        exact d0
      clear hc
      by_cases hbd : b = 105
      · subst hbd
        have e2 : (((105 : UInt8).toNat : Int) != 105) = false := by decide
        obtain ⟨A', hsl, hs3⟩ := slice_from (l := 105 :: t) c 1 SR.out (by simp) hc1
        simp only [show ((1 : Nat) : Int) = 1 from rfl, List.length_cons, Nat.add_sub_cancel] at hsl
        simp only [List.drop_one, List.tail_cons] at hs3
        have S3 := Lib.hid ((hs3.alloc (.cells #[.slice (some ad) (t.length + 1) c, .int .i64 0] 40)).alloc (.cells #[.slice none 0 0, .int .i64 0] 40))
        clear hs3
        have hunt := ref_until A' t.length (c - 1) t rfl 101 20 (by omega) ((w.alloc (.cells #[.slice (some ad) (t.length + 1) c, .int .i64 0] 40)).alloc (.cells #[.slice none 0 0, .int .i64 0] 40)) _ S3.out (by omega) (by omega)
        cases ha : Rd.at? t 101 20 with
        | none =>
          have hu : untilR t 101 20 = ([], if 20 < t.length then 4 else 3) := by unfold untilR; rw [ha]
          rw [hu] at hunt
          obtain ⟨E, hE⟩ : ∃ E : Int, (if 20 < t.length then 4 else 3) = E := ⟨_, rfl⟩
          have HX := Lib.hid (show (⟨105 :: t, 0⟩ : Rd).int = (Rd.stop E, 0) by simp [Rd.int, Rd.till, ha, hE])
          rw [hE] at hunt
          have e3 : (E != 0) = true := by rw [← hE]; split <;> decide
          have HU := Lib.hid hunt
          rw [HX.out]
          clear hE ha hu hunt
          go_enter Tryd.func47, Tryd.ntmps47
          go_wp2_with fail
          refine HU.out.mono ?_
          rintro e w' ⟨rfl, rfl⟩
          go_wp2_with fail
          refine (ref_stop (E) _).mono ?_
          rintro e w1 ⟨rfl, ho⟩
          have HB1 := Lib.hid (HB.out.only ho (fun h => h))
          have HO := Lib.hid ho
          clear ho
          go_wp2_with (refine wpList_store_whole rfl rfl 40 (.tmp 2) (.tmp 36) rfl (w.heap.size + 1) rfl #[.slice none 0 0, .int .i64 (E)] rfl 40 _ HB1.out rfl (by simp [Value.oneCell']) (by kernel_rfl) ?_; intro w2 hb2 ho2 _; obtain ⟨y0, y1⟩ := hb2.two; have HO2 := Lib.hid ho2; clear ho2 hb2)
          refine bodyPost_ret (v := .tuple #[.agg #[.slice none 0 0, .int .i64 E], .int .i64 0]) (by simp [results, Tryd.results47, go_sem, y0, y1]) rfl ⟨_, rfl, ?_, ?_⟩
          · exact Rv.stop _ _ _
          · exact (((((Only.refl _ _).alloc _).alloc _).tr HO.out)).trans HO2.out (fun j hj hl => absurd hl (by have : j = w.heap.size + 1 := hj; omega))
        | some i =>
          have hu : untilR t 101 20 = (t.take i, 0) := by unfold untilR; rw [ha]
          rw [hu] at hunt
          obtain ⟨hi20, hit, -, -, -⟩ := Rd.at_some ha
          obtain ⟨S, hS⟩ : ∃ S, ByteArray.mk (t.take i).toArray = S := ⟨_, rfl⟩
          simp only [hS] at hunt
          have hSl : S.data.toList = t.take i := by rw [← hS]
          have hSs : S.size = i := by rw [← hS, mk_size, List.length_take]; omega
          have hnum := ref_number S (by omega) ((w.alloc (.cells #[.slice (some ad) (t.length + 1) c, .int .i64 0] 40)).alloc (.cells #[.slice none 0 0, .int .i64 0] 40))
          rw [hSl] at hnum
          have HU := Lib.hid hunt
          have HN := Lib.hid hnum
          clear hS hSl hu hunt hnum
          cases hnm : num (t.take i) with
          | none =>
            have HX := Lib.hid (show (⟨105 :: t, 0⟩ : Rd).int = (Rd.stop 4, 0) by simp [Rd.int, Rd.till, ha, hnm])
            have NM := Lib.hid hnm
            rw [HX.out]
            clear ha hnm
            go_enter Tryd.func47, Tryd.ntmps47
            go_wp2_with fail
            refine HU.out.mono ?_
            rintro e w' ⟨rfl, rfl⟩
            go_wp2_with fail
            refine HN.out.mono ?_
            rintro e w' ⟨x, rfl, _, rfl⟩
            rw [NM.out]
            simp only [Option.isSome_none]
            go_wp2_with fail
            refine (ref_stop (4) _).mono ?_
            rintro e w1 ⟨rfl, ho⟩
            have HB1 := Lib.hid (HB.out.only ho (fun h => h))
            have HO := Lib.hid ho
            clear ho
            go_wp2_with (refine wpList_store_whole rfl rfl 40 (.tmp 2) (.tmp 44) rfl (w.heap.size + 1) rfl #[.slice none 0 0, .int .i64 (4)] rfl 40 _ HB1.out rfl (by simp [Value.oneCell']) (by kernel_rfl) ?_; intro w2 hb2 ho2 _; obtain ⟨y0, y1⟩ := hb2.two; have HO2 := Lib.hid ho2; clear ho2 hb2)
            refine bodyPost_ret (v := .tuple #[.agg #[.slice none 0 0, .int .i64 4], .int .i64 0]) (by simp [results, Tryd.results47, go_sem, y0, y1]) rfl ⟨_, rfl, ?_, ?_⟩
            · exact Rv.stop _ _ _
            · exact (((((Only.refl _ _).alloc _).alloc _).tr HO.out)).trans HO2.out (fun j hj hl => absurd hl (by have : j = w.heap.size + 1 := hj; omega))
          | some n =>
            have HX := Lib.hid (show (⟨105 :: t, 0⟩ : Rd).int = (⟨t.drop (i + 1), 0⟩, n) by simp [Rd.int, Rd.till, ha, hnm])
            have NM := Lib.hid hnm
            rw [HX.out]
            obtain ⟨A2, hsl2, hs4⟩ := slice_from (l := 105 :: t) c (i + 2) SR.out (by simp; omega) hc1
            simp only [List.length_cons] at hsl2
            simp only [List.drop_succ_cons] at hs4
            have S4 := Lib.hid hs4
            rw [show ((i + 2 : Nat) : Int) = (i : Int) + 2 by omega] at hsl2
            have hsz : (i : Int) ≤ 20 := by omega
            clear ha hnm hs4
            go_enter Tryd.func47, Tryd.ntmps47
            go_wp2_with fail
            refine HU.out.mono ?_
            rintro e w' ⟨rfl, rfl⟩
            go_wp2_with fail
            refine HN.out.mono ?_
            rintro e w' ⟨x, rfl, hxn, rfl⟩
            obtain rfl := hxn n NM.out
            clear hxn
            rw [NM.out]
            simp only [Option.isSome_some]
            go_wp2
            refine bodyPost_ret (v := .tuple #[.agg #[.slice A2 (t.length + 1 - (i + 2)) (c - (i + 2)), .int .i64 0], .int .i64 x]) (by simp [results, Tryd.results47, go_sem]) rfl ⟨_, rfl, ?_, ((Only.refl _ _).alloc _).alloc _⟩
            have hl2 : t.length + 1 - (i + 2) = (t.drop (i + 1)).length := by rw [List.length_drop]; omega
            rw [hl2]
            exact Rv.noth ⟨A2, c - (i + 2), rfl, ⟨A2, c - (i + 2), rfl, S4.out, by rw [List.length_drop]; omega, by omega⟩, Rd.sane_mk _⟩ (((Only.refl _ _).alloc _).alloc _)
      · have HX := Lib.hid (show (⟨b :: t, 0⟩ : Rd).int = (Rd.stop 4, 0) by simp [Rd.int, hbd])
        have e2 : ((b.toNat : Int) != 105) = true := by simp only [bne_iff_ne, ne_eq]; intro h; exact hbd (UInt8.toNat_inj.1 (by show b.toNat = 105; omega))
        rw [HX.out]
        clear hbd
        go_enter Tryd.func47, Tryd.ntmps47
        go_wp2_with fail
        refine (ref_stop (4) _).mono ?_
        rintro e w1 ⟨rfl, ho⟩
        have HB1 := Lib.hid (HB.out.only ho (fun h => h))
        have HO := Lib.hid ho
        clear ho
        go_wp2_with (refine wpList_store_whole rfl rfl 40 (.tmp 2) (.tmp 25) rfl (w.heap.size + 1) rfl #[.slice none 0 0, .int .i64 (4)] rfl 40 _ HB1.out rfl (by simp [Value.oneCell']) (by kernel_rfl) ?_; intro w2 hb2 ho2 _; obtain ⟨y0, y1⟩ := hb2.two; have HO2 := Lib.hid ho2; clear ho2 hb2)
        refine bodyPost_ret (v := .tuple #[.agg #[.slice none 0 0, .int .i64 4], .int .i64 0]) (by simp [results, Tryd.results47, go_sem, y0, y1]) rfl ⟨_, rfl, ?_, ?_⟩
        · exact Rv.stop _ _ _
        · exact (((((Only.refl _ _).alloc _).alloc _).tr HO.out)).trans HO2.out (fun j hj hl => absurd hl (by have : j = w.heap.size + 1 := hj; omega))
  · have e1 : (r.err != 0) = true := by simpa using he
    have HX := Lib.hid (show r.int = (r, 0) from Rd.stopped_int he)
    clear he
    rw [HX.out]
    go_enter Tryd.func47, Tryd.ntmps47
    go_wp2
    refine bodyPost_ret (v := .tuple #[.agg #[.slice A r.b.length c, .int .i64 r.err], .int .i64 0]) (by simp [results, Tryd.results47, go_sem]) rfl ⟨_, rfl, ?_, ((Only.refl _ _).alloc _).alloc _⟩
    exact Rv.noth ⟨A, c, rfl, ⟨A, c, rfl, SR.out, hc1, hc2⟩, SN.out⟩ (((Only.refl _ _).alloc _).alloc _)
end
section
variable (S : Nat → Prop) (v : Value) (r : Rd) (w : World) (h : Rv S w v r)
include h
set_option maxHeartbeats 4000000 in
theorem ref_rtext0 (hS : ∀ k, S k → k < w.heap.size) (m : Int) : Calls Tryd.prog 48 #[v, .int .i64 m] w fun e w' => ∃ x, e = .returned (.tuple #[x, .string ⟨(r.text m).2.toArray⟩]) ∧ Rv S w' x (r.text m).1 ∧ Only Noth w w' := by
  obtain ⟨A, c, rfl, hp, hs⟩ := h
  obtain ⟨_, _, e0, hsrc, hc1, hc2⟩ := hp
  injection e0 with e1 e2 e3
  subst e1 e3
  have SR := Lib.hid hsrc
  have SN := Lib.hid hs
  have HB := Lib.hid (Hld.at' (w.alloc (.cells #[.slice A r.b.length c, .int .i64 r.err] 40)) 40 #[.slice none 0 0, .int .i64 0] (w.heap.size + 1) (by simp))
  clear hsrc hs
  have hl : (r.b.length : Int) ≤ 9223372036854775807 := by omega
  by_cases he : r.err = 0
  · have e1 : (r.err != 0) = false := by simpa using he
    obtain ⟨b, err⟩ := r
    simp only at *
    subst he
    cases b with
    | nil =>
      have HX := Lib.hid (show (⟨[], 0⟩ : Rd).text m = (Rd.stop 3, []) by simp [Rd.text])
      simp only [List.length_nil] at *
      rw [HX.out]
      go_enter Tryd.func48, Tryd.ntmps48
      go_wp2_with fail
      refine (ref_stop (3) _).mono ?_
      rintro e w1 ⟨rfl, ho⟩
      have HB1 := Lib.hid (HB.out.only ho (fun h => h))
      have HO := Lib.hid ho
      clear ho
      go_wp2_with (refine wpList_store_whole rfl rfl 40 (.tmp 4) (.tmp 21) rfl (w.heap.size + 1) rfl #[.slice none 0 0, .int .i64 (3)] rfl 40 _ HB1.out rfl (by simp [Value.oneCell']) (by kernel_rfl) ?_; intro w2 hb2 ho2 _; obtain ⟨y0, y1⟩ := hb2.two; have HO2 := Lib.hid ho2; clear ho2 hb2)
      refine bodyPost_ret (v := .tuple #[.agg #[.slice none 0 0, .int .i64 3], .string ⟨#[]⟩]) (by simp [results, Tryd.results48, go_sem, y0, y1]) rfl ⟨_, rfl, ?_, ?_⟩
      · exact Rv.stop _ _ _
      · exact (((((Only.refl _ _).alloc _).alloc _).tr HO.out)).trans HO2.out (fun j hj hl => absurd hl (by have : j = w.heap.size + 1 := hj; omega))
    | cons b t =>
      simp only [List.length_cons] at *
      clear hl
      have S2 := Lib.hid ((SR.out.alloc (.cells #[.slice A (t.length + 1) c, .int .i64 0] 40)).alloc (.cells #[.slice none 0 0, .int .i64 0] 40))
      obtain ⟨ad, rfl, _, _, hc⟩ := S2.out.2 (by simp)
      have d1 : ((w.alloc (.cells #[.slice (some ad) (t.length + 1) c, .int .i64 0] 40)).alloc (.cells #[.slice none 0 0, .int .i64 0] 40)).cell? ad = some (.int .u8 b.toNat) := by
        have d0 := hc 0 (.int .u8 b.toNat) rfl
        have e : ad.add 0 = ad := by unfold Addr.add; split <;> simp_all
        rw [e] at d0
        exact d0
      clear hc
      have hb0 : (0 : Int) ≤ b.toNat := by omega
      by_cases hd : b.toNat < 48 ∨ 57 < b.toNat
      · have HX := Lib.hid (show (⟨b :: t, 0⟩ : Rd).text m = (Rd.stop 4, []) by simp [Rd.text, hd])
        rw [HX.out]
        by_cases hd1 : b.toNat < 48
        · have e2 : decide ((b.toNat : Int) < 48) = true := by simp; omega
          clear hd
          go_enter Tryd.func48, Tryd.ntmps48
          go_wp2_with fail
          refine (ref_stop (4) _).mono ?_
          rintro e w1 ⟨rfl, ho⟩
          have HB1 := Lib.hid (HB.out.only ho (fun h => h))
          have HO := Lib.hid ho
          clear ho
          go_wp2_with (refine wpList_store_whole rfl rfl 40 (.tmp 4) (.tmp 35) rfl (w.heap.size + 1) rfl #[.slice none 0 0, .int .i64 (4)] rfl 40 _ HB1.out rfl (by simp [Value.oneCell']) (by kernel_rfl) ?_; intro w2 hb2 ho2 _; obtain ⟨y0, y1⟩ := hb2.two; have HO2 := Lib.hid ho2; clear ho2 hb2)
          refine bodyPost_ret (v := .tuple #[.agg #[.slice none 0 0, .int .i64 4], .string ⟨#[]⟩]) (by simp [results, Tryd.results48, go_sem, y0, y1]) rfl ⟨_, rfl, ?_, ?_⟩
          · exact Rv.stop _ _ _
          · exact (((((Only.refl _ _).alloc _).alloc _).tr HO.out)).trans HO2.out (fun j hj hl => absurd hl (by have : j = w.heap.size + 1 := hj; omega))
        · have e2 : decide ((b.toNat : Int) < 48) = false := by simp; omega
          have e3 : decide ((57 : Int) < b.toNat) = true := by simp; omega
          clear hd
          go_enter Tryd.func48, Tryd.ntmps48
          go_wp2_with fail
          refine (ref_stop (4) _).mono ?_
          rintro e w1 ⟨rfl, ho⟩
          have HB1 := Lib.hid (HB.out.only ho (fun h => h))
          have HO := Lib.hid ho
          clear ho
          go_wp2_with (refine wpList_store_whole rfl rfl 40 (.tmp 4) (.tmp 35) rfl (w.heap.size + 1) rfl #[.slice none 0 0, .int .i64 (4)] rfl 40 _ HB1.out rfl (by simp [Value.oneCell']) (by kernel_rfl) ?_; intro w2 hb2 ho2 _; obtain ⟨y0, y1⟩ := hb2.two; have HO2 := Lib.hid ho2; clear ho2 hb2)
          refine bodyPost_ret (v := .tuple #[.agg #[.slice none 0 0, .int .i64 4], .string ⟨#[]⟩]) (by simp [results, Tryd.results48, go_sem, y0, y1]) rfl ⟨_, rfl, ?_, ?_⟩
          · exact Rv.stop _ _ _
          · exact (((((Only.refl _ _).alloc _).alloc _).tr HO.out)).trans HO2.out (fun j hj hl => absurd hl (by have : j = w.heap.size + 1 := hj; omega))
      · have e2 : decide ((b.toNat : Int) < 48) = false := by simp; omega
        have e3 : decide ((57 : Int) < b.toNat) = false := by simp; omega
        have hunt := ref_until (some ad) (t.length + 1) c (b :: t) rfl 58 10 (by omega) ((w.alloc (.cells #[.slice (some ad) (t.length + 1) c, .int .i64 0] 40)).alloc (.cells #[.slice none 0 0, .int .i64 0] 40)) _ S2.out hc1 (by omega)
        cases ha : Rd.at? (b :: t) 58 10 with
        | none =>
          have hu : untilR (b :: t) 58 10 = ([], if 10 < (b :: t).length then 4 else 3) := by unfold untilR; rw [ha]
          rw [hu] at hunt
          obtain ⟨E, hE⟩ : ∃ E : Int, (if 10 < (b :: t).length then 4 else 3) = E := ⟨_, rfl⟩
          have HX := Lib.hid (show (⟨b :: t, 0⟩ : Rd).text m = (Rd.stop E, []) by
            have hE2 : (if 10 < t.length + 1 then 4 else 3) = E := hE
            simp only [Rd.text, Rd.till, ha, List.length_cons, hE2]
            simp [hd])
          rw [hE] at hunt
          have e4 : (E != 0) = true := by rw [← hE]; split <;> decide
          have HU := Lib.hid hunt
          rw [HX.out]
          clear hE ha hu hunt hd
          go_enter Tryd.func48, Tryd.ntmps48
          go_wp2_with fail
          refine HU.out.mono ?_
          rintro e w' ⟨rfl, rfl⟩
          go_wp2_with fail
          refine (ref_stop (E) _).mono ?_
          rintro e w1 ⟨rfl, ho⟩
          have HB1 := Lib.hid (HB.out.only ho (fun h => h))
          have HO := Lib.hid ho
          clear ho
          go_wp2_with (refine wpList_store_whole rfl rfl 40 (.tmp 4) (.tmp 45) rfl (w.heap.size + 1) rfl #[.slice none 0 0, .int .i64 (E)] rfl 40 _ HB1.out rfl (by simp [Value.oneCell']) (by kernel_rfl) ?_; intro w2 hb2 ho2 _; obtain ⟨y0, y1⟩ := hb2.two; have HO2 := Lib.hid ho2; clear ho2 hb2)
          refine bodyPost_ret (v := .tuple #[.agg #[.slice none 0 0, .int .i64 E], .string ⟨#[]⟩]) (by simp [results, Tryd.results48, go_sem, y0, y1]) rfl ⟨_, rfl, ?_, ?_⟩
          · exact Rv.stop _ _ _
          · exact (((((Only.refl _ _).alloc _).alloc _).tr HO.out)).trans HO2.out (fun j hj hl => absurd hl (by have : j = w.heap.size + 1 := hj; omega))
        | some i =>
          have hu : untilR (b :: t) 58 10 = ((b :: t).take i, 0) := by unfold untilR; rw [ha]
          rw [hu] at hunt
          obtain ⟨hi10, hit, hic, -, -⟩ := Rd.at_some ha
          obtain ⟨S, hS⟩ : ∃ S, ByteArray.mk ((b :: t).take i).toArray = S := ⟨_, rfl⟩
          simp only [hS] at hunt
          have hSl : S.data.toList = (b :: t).take i := by rw [← hS]
          have hSs : S.size = i := by rw [← hS, mk_size, List.length_take]; omega
          have hnum := ref_number S (by omega) ((w.alloc (.cells #[.slice (some ad) (t.length + 1) c, .int .i64 0] 40)).alloc (.cells #[.slice none 0 0, .int .i64 0] 40))
          rw [hSl] at hnum
          have HU := Lib.hid hunt
          have HN := Lib.hid hnum
          have hlt : i < t.length + 1 := by simpa using hit
          obtain ⟨A2, hsl2, hs4⟩ := slice_from (l := b :: t) c (i + 1) SR.out (by simp; omega) hc1
          simp only [List.length_cons] at hsl2
          simp only [List.drop_succ_cons] at hs4
          rw [show ((i + 1 : Nat) : Int) = (i : Int) + 1 by omega] at hsl2
          have hsz : (i : Int) ≤ 20 := by omega
          obtain ⟨X, hX⟩ : ∃ X, t.drop i = X := ⟨_, rfl⟩
          have hXl : t.length + 1 - (i + 1) = X.length := by rw [← hX, List.length_drop]; omega
          rw [hXl] at hsl2
          rw [hX] at hs4
          have S4 := Lib.hid hs4
          have hXc : X.length ≤ c - (i + 1) := by omega
          have hXb : X.length ≤ 9223372036854775807 := by omega
          clear hS hSl hu hunt hnum hs4 hXl hit
          cases hnm : num ((b :: t).take i) with
          | none =>
            have HX := Lib.hid (show (⟨b :: t, 0⟩ : Rd).text m = (Rd.stop 4, []) by simp only [Rd.text, Rd.till, ha, hnm]; simp [hd])
            have NM := Lib.hid hnm
            rw [HX.out]
            clear ha hnm hd hic
            go_enter Tryd.func48, Tryd.ntmps48
            go_wp2_with fail
            refine HU.out.mono ?_
            rintro e w' ⟨rfl, rfl⟩
            go_wp2_with fail
            refine HN.out.mono ?_
            rintro e w' ⟨x, rfl, _, rfl⟩
            rw [NM.out]
            simp only [Option.isSome_none]
            go_wp2_with fail
            refine (ref_stop (4) _).mono ?_
            rintro e w1 ⟨rfl, ho⟩
            have HB1 := Lib.hid (HB.out.only ho (fun h => h))
            have HO := Lib.hid ho
            clear ho
            go_wp2_with (refine wpList_store_whole rfl rfl 40 (.tmp 4) (.tmp 64) rfl (w.heap.size + 1) rfl #[.slice none 0 0, .int .i64 (4)] rfl 40 _ HB1.out rfl (by simp [Value.oneCell']) (by kernel_rfl) ?_; intro w2 hb2 ho2 _; obtain ⟨y0, y1⟩ := hb2.two; have HO2 := Lib.hid ho2; clear ho2 hb2)
            refine bodyPost_ret (v := .tuple #[.agg #[.slice none 0 0, .int .i64 4], .string ⟨#[]⟩]) (by simp [results, Tryd.results48, go_sem, y0, y1]) rfl ⟨_, rfl, ?_, ?_⟩
            · exact Rv.stop _ _ _
            · exact (((((Only.refl _ _).alloc _).alloc _).tr HO.out)).trans HO2.out (fun j hj hl => absurd hl (by have : j = w.heap.size + 1 := hj; omega))
          | some n =>
            have hi0 : i ≠ 0 := by
              rintro rfl
              simp at hic
              subst hic
              exact hd (.inr (by decide))
            have hn0 : 0 ≤ n := by
              obtain ⟨i', rfl⟩ : ∃ j, i = j + 1 := ⟨i - 1, by omega⟩
              rw [List.take_succ_cons] at hnm
              exact num_nonneg hnm (by omega)
            obtain ⟨k, rfl⟩ := Int.eq_ofNat_of_zero_le hn0
            have HT := Lib.hid (show (⟨b :: t, 0⟩ : Rd).text m = Rd.rest ⟨X, 0⟩ k m by simp only [Rd.text, Rd.till, ha, hnm, List.drop_succ_cons, hX]; simp [hd])
            have NM := Lib.hid hnm
            have HXX := Lib.hid hX
            rw [HT.out]
            clear ha hnm hd hic hX
            by_cases g1 : (1000000000 : Int) < k
            · rw [show Rd.rest ⟨X, 0⟩ k m = (Rd.stop 4, []) by unfold Rd.rest; rw [if_pos g1]]
              have e4 : decide ((1000000000 : Int) < k) = true := by simpa using g1
              go_enter Tryd.func48, Tryd.ntmps48
              go_wp2_with fail
              refine HU.out.mono ?_
              rintro e w' ⟨rfl, rfl⟩
              go_wp2_with fail
              refine HN.out.mono ?_
              rintro e w' ⟨x, rfl, hxn, rfl⟩
              obtain rfl := hxn k NM.out
              clear hxn
              rw [NM.out]
              simp only [Option.isSome_some]
              go_wp2_with fail
              refine (ref_stop (4) _).mono ?_
              rintro e w1 ⟨rfl, ho⟩
              have HB1 := Lib.hid (HB.out.only ho (fun h => h))
              have HO := Lib.hid ho
              clear ho
              go_wp2_with (refine wpList_store_whole rfl rfl 40 (.tmp 4) (.tmp 64) rfl (w.heap.size + 1) rfl #[.slice none 0 0, .int .i64 (4)] rfl 40 _ HB1.out rfl (by simp [Value.oneCell']) (by kernel_rfl) ?_; intro w2 hb2 ho2 _; obtain ⟨y0, y1⟩ := hb2.two; have HO2 := Lib.hid ho2; clear ho2 hb2)
              refine bodyPost_ret (v := .tuple #[.agg #[.slice none 0 0, .int .i64 4], .string ⟨#[]⟩]) (by simp [results, Tryd.results48, go_sem, y0, y1]) rfl ⟨_, rfl, ?_, ?_⟩
              · exact Rv.stop _ _ _
              · exact (((((Only.refl _ _).alloc _).alloc _).tr HO.out)).trans HO2.out (fun j hj hl => absurd hl (by have : j = w.heap.size + 1 := hj; omega))
            · by_cases g2 : m < (k : Int)
              · rw [show Rd.rest ⟨X, 0⟩ k m = (Rd.stop 5, []) by unfold Rd.rest; rw [if_neg g1, if_pos g2]]
                have e4 : decide ((1000000000 : Int) < k) = false := by simpa using g1
                have e5 : decide (m < (k : Int)) = true := by simpa using g2
                go_enter Tryd.func48, Tryd.ntmps48
                go_wp2_with fail
                refine HU.out.mono ?_
                rintro e w' ⟨rfl, rfl⟩
                go_wp2_with fail
                refine HN.out.mono ?_
                rintro e w' ⟨x, rfl, hxn, rfl⟩
                obtain rfl := hxn k NM.out
                clear hxn
                rw [NM.out]
                simp only [Option.isSome_some]
                go_wp2_with fail
                refine (ref_stop (5) _).mono ?_
                rintro e w1 ⟨rfl, ho⟩
                have HB1 := Lib.hid (HB.out.only ho (fun h => h))
                have HO := Lib.hid ho
                clear ho
                go_wp2_with (refine wpList_store_whole rfl rfl 40 (.tmp 4) (.tmp 69) rfl (w.heap.size + 1) rfl #[.slice none 0 0, .int .i64 (5)] rfl 40 _ HB1.out rfl (by simp [Value.oneCell']) (by kernel_rfl) ?_; intro w2 hb2 ho2 _; obtain ⟨y0, y1⟩ := hb2.two; have HO2 := Lib.hid ho2; clear ho2 hb2)
                refine bodyPost_ret (v := .tuple #[.agg #[.slice none 0 0, .int .i64 5], .string ⟨#[]⟩]) (by simp [results, Tryd.results48, go_sem, y0, y1]) rfl ⟨_, rfl, ?_, ?_⟩
                · exact Rv.stop _ _ _
                · exact (((((Only.refl _ _).alloc _).alloc _).tr HO.out)).trans HO2.out (fun j hj hl => absurd hl (by have : j = w.heap.size + 1 := hj; omega))
              · by_cases g3 : X.length < k
                · have g3' : (X.length : Int) < k := by omega
                  rw [show Rd.rest ⟨X, 0⟩ k m = (Rd.stop 3, []) by unfold Rd.rest; rw [if_neg g1, if_neg g2, if_pos g3']]
                  have e4 : decide ((1000000000 : Int) < k) = false := by simpa using g1
                  have e5 : decide (m < (k : Int)) = false := by simpa using g2
                  have e6 : decide (X.length < k) = true := by simpa using g3
                  go_enter Tryd.func48, Tryd.ntmps48
                  go_wp2_with fail
                  refine HU.out.mono ?_
                  rintro e w' ⟨rfl, rfl⟩
                  go_wp2_with fail
                  refine HN.out.mono ?_
                  rintro e w' ⟨x, rfl, hxn, rfl⟩
                  obtain rfl := hxn k NM.out
                  clear hxn
                  rw [NM.out]
                  simp only [Option.isSome_some]
                  go_wp2_with fail
                  refine (ref_stop (3) _).mono ?_
                  rintro e w1 ⟨rfl, ho⟩
                  have HB1 := Lib.hid (HB.out.only ho (fun h => h))
                  have HO := Lib.hid ho
                  clear ho
                  go_wp2_with (refine wpList_store_whole rfl rfl 40 (.tmp 4) (.tmp 75) rfl (w.heap.size + 1) rfl #[.slice none 0 0, .int .i64 (3)] rfl 40 _ HB1.out rfl (by simp [Value.oneCell']) (by kernel_rfl) ?_; intro w2 hb2 ho2 _; obtain ⟨y0, y1⟩ := hb2.two; have HO2 := Lib.hid ho2; clear ho2 hb2)
                  refine bodyPost_ret (v := .tuple #[.agg #[.slice none 0 0, .int .i64 3], .string ⟨#[]⟩]) (by simp [results, Tryd.results48, go_sem, y0, y1]) rfl ⟨_, rfl, ?_, ?_⟩
                  · exact Rv.stop _ _ _
                  · exact (((((Only.refl _ _).alloc _).alloc _).tr HO.out)).trans HO2.out (fun j hj hl => absurd hl (by have : j = w.heap.size + 1 := hj; omega))
                · have g3' : ¬ (X.length : Int) < k := by omega
                  have HR := Lib.hid (show Rd.rest ⟨X, 0⟩ k m = (⟨X.drop k, 0⟩, X.take k) by unfold Rd.rest; rw [if_neg g1, if_neg g2, if_neg g3']; rfl)
                  rw [HR.out]
                  have e4 : decide ((1000000000 : Int) < k) = false := by simpa using g1
                  have e5 : decide (m < (k : Int)) = false := by simpa using g2
                  have e6 : decide (X.length < k) = false := by simpa using g3
                  obtain ⟨A5, hsl5, hs5⟩ := slice_from (c - (i + 1)) k S4.out (by omega) hXc
                  obtain ⟨A6, hsl6, hs6⟩ := slice_to (c - (i + 1)) k S4.out (by omega) hXc
                  have ht6 : (X.take k).length = k := by rw [List.length_take]; omega
                  have hd5 : (X.drop k).length = X.length - k := List.length_drop
                  rw [ht6] at hs6
                  rw [hd5] at hs5
                  have S5 := Lib.hid hs5
                  have S6 := Lib.hid hs6
                  have H6 := Lib.hid ht6
                  have H5 := Lib.hid hd5
                  clear hs5 hs6 ht6 hd5 g1 g2 g3 g3'
                  go_enter Tryd.func48, Tryd.ntmps48
                  go_wp2_with fail
                  refine HU.out.mono ?_
                  rintro e w' ⟨rfl, rfl⟩
                  go_wp2_with fail
                  refine HN.out.mono ?_
                  rintro e w' ⟨x, rfl, hxn, rfl⟩
                  obtain rfl := hxn k NM.out
                  clear hxn
                  rw [NM.out]
                  simp only [Option.isSome_some]
                  go_wp2_with fail
                  obtain ⟨W, hW⟩ : ∃ W, W = ((w.alloc (.cells #[.slice (some ad) (t.length + 1) c, .int .i64 0] 40)).alloc (.cells #[.slice none 0 0, .int .i64 0] 40)) := ⟨_, rfl⟩
                  rw [← hW]
                  have HB2 := Lib.hid (show Hld W (w.heap.size + 1) 40 #[.slice none 0 0, .int .i64 0] by rw [hW]; exact HB.out)
                  have HON := Lib.hid (show Only Noth w W by rw [hW]; exact (((Only.refl _ _).alloc _).alloc _))
                  clear hW
                  refine wp_region_N (At (w.heap.size + 1)) (by kernel_rfl) ?_
                  refine wpN_take (i := 0) (d := some 76) rfl rfl (by kernel_rfl) (by kernel_rfl) (by kernel_rfl) (fun _ _ _ h => h) (sure_value (v := .slice A2 X.length (c - (i + 1))) (by rfl) (fun _ _ => rfl)) (Only.refl _ _) ?_
                  simp only [Act.put, List.setIfInBounds_toArray, List.set_cons_zero, List.set_cons_succ]
                  refine wpN_take (i := 1) (d := some 77) rfl rfl (by kernel_rfl) (by kernel_rfl) (by kernel_rfl) (fun _ _ _ h => h) (sure_value (v := .int .i64 k) (by rfl) (fun _ _ => rfl)) (Only.refl _ _) ?_
                  simp only [Act.put, List.setIfInBounds_toArray, List.set_cons_zero, List.set_cons_succ]
                  refine wpN_take (i := 2) (d := some 78) rfl rfl (by kernel_rfl) (by kernel_rfl) (by kernel_rfl) (fun _ _ _ h => h) (sure_value (v := .slice A5 (X.length - k) (c - (i + 1) - k)) (by rfl) (fun _ _ => by go_simp)) (Only.refl _ _) ?_
                  simp only [Act.put, List.setIfInBounds_toArray, List.set_cons_zero, List.set_cons_succ]
                  refine wpN_take (i := 3) (d := some 79) rfl rfl (by kernel_rfl) (by kernel_rfl) (by kernel_rfl) (fun _ _ _ h => h) (sure_value (v := .agg #[.slice A5 (X.length - k) (c - (i + 1) - k), .int .i64 0]) (by rfl) (fun _ _ => by go_simp)) (Only.refl _ _) ?_
                  simp only [Act.put, List.setIfInBounds_toArray, List.set_cons_zero, List.set_cons_succ]
                  refine wpN_take (i := 4) (d := some 80) rfl rfl (by kernel_rfl) (by kernel_rfl) (by kernel_rfl) (fun _ _ _ h => h) (sure_value (v := .slice A2 X.length (c - (i + 1))) (by rfl) (fun _ _ => rfl)) (Only.refl _ _) ?_
                  simp only [Act.put, List.setIfInBounds_toArray, List.set_cons_zero, List.set_cons_succ]
                  refine wpN_take (i := 5) (d := some 81) rfl rfl (by kernel_rfl) (by kernel_rfl) (by kernel_rfl) (fun _ _ _ h => h) (sure_value (v := .int .i64 k) (by rfl) (fun _ _ => rfl)) (Only.refl _ _) ?_
                  simp only [Act.put, List.setIfInBounds_toArray, List.set_cons_zero, List.set_cons_succ]
                  refine wpN_take (i := 6) (d := some 82) rfl rfl (by kernel_rfl) (by kernel_rfl) (by kernel_rfl) (fun _ _ _ h => h) (sure_value (v := .slice A6 k (c - (i + 1))) (by rfl) (fun _ _ => by go_simp)) (Only.refl _ _) ?_
                  simp only [Act.put, List.setIfInBounds_toArray, List.set_cons_zero, List.set_cons_succ]
                  refine wpN_take (i := 7) (d := some 83) rfl rfl (by kernel_rfl) (by kernel_rfl) (by kernel_rfl) (fun _ _ _ h => h) (sure_convs (l := X.take k) H6.out (((S6.out.only HON.out (fun _ h => fun h => h)).drew)) (fun j hj e => by have : j = w.heap.size + 1 := e; have := hS j hj; omega) (by rfl) rfl rfl) (Only.refl _ _) ?_
                  simp only [Act.put, List.setIfInBounds_toArray, List.set_cons_zero, List.set_cons_succ]
                  refine wpN_store (i := 8) (g := w.heap.size + 1) (cs' := #[.slice A5 (X.length - k) (c - (i + 1) - k), .int .i64 0]) (by kernel_rfl) rfl (by rfl) rfl rfl rfl rfl HB2.out.drew (fun _ => rfl) rfl (by simp [Value.oneCell']) (by kernel_rfl) (Only.refl _ _) ?_
                  intro W3 W4 ho3 P2 ho4 hS4
                  refine wpN_take (i := 9) (d := some 5) rfl rfl (by kernel_rfl) (by kernel_rfl) (by kernel_rfl) (fun _ _ _ h => h) (sure_value (v := .string ⟨(X.take k).toArray⟩) (by rfl) (fun _ _ => rfl)) hS4 ?_
                  simp only [Act.put, List.setIfInBounds_toArray, List.set_cons_zero, List.set_cons_succ]
                  refine wpN_done (by kernel_rfl) (fun W5 ho5 => ?_) _
                  obtain ⟨y0, y1⟩ := (P2.only ho5 (fun h => h)).two
                  have HS := Lib.hid (only_up _ _ _ hS4 ho5)
                  clear P2 ho3 ho4 ho5 hS4
                  go_wp2
                  refine bodyPost_ret (v := .tuple #[.agg #[.slice A5 (X.length - k) (c - (i + 1) - k), .int .i64 0], .string ⟨(X.take k).toArray⟩]) (by simp [results, Tryd.results48, go_sem, y0, y1]) rfl ⟨_, rfl, ?_, ?_⟩
                  · rw [← H5.out]
                    refine ⟨A5, c - (i + 1) - k, rfl, ⟨A5, c - (i + 1) - k, rfl, ?_, by simp only; rw [H5.out]; omega, by omega⟩, Rd.sane_mk _⟩
                    have h5 := S5.out
                    rw [← H5.out] at h5
                    exact ((h5.only HON.out (fun _ h => fun h => h)).only HS.out.undrew (fun j hj e => by have : j = w.heap.size + 1 := e; have := hS j hj; omega)).mono (fun j hj hl => hj)
                  · exact HON.out.trans HS.out.undrew (fun j hj hl => by have : j = w.heap.size + 1 := hj; omega)
  · have e1 : (r.err != 0) = true := by simpa using he
    have HX := Lib.hid (show r.text m = (r, []) from Rd.stopped_text he m)
    clear he
    rw [HX.out]
    go_enter Tryd.func48, Tryd.ntmps48
    go_wp2
    refine bodyPost_ret (v := .tuple #[.agg #[.slice A r.b.length c, .int .i64 r.err], .string ⟨#[]⟩]) (by simp [results, Tryd.results48, go_sem]) rfl ⟨_, rfl, ?_, ((Only.refl _ _).alloc _).alloc _⟩
    exact Rv.noth ⟨A, c, rfl, ⟨A, c, rfl, SR.out, hc1, hc2⟩, SN.out⟩ (((Only.refl _ _).alloc _).alloc _)
theorem ref_more : Calls Tryd.prog 50 #[v] w fun e w' => e = .returned (.bool r.more) ∧ Only Noth w w' := by
  obtain ⟨A, c, rfl, hp, hs⟩ := h
  obtain ⟨_, _, e0, hsrc, hc1, hc2⟩ := hp
  injection e0 with e1 e2 e3
  subst e1 e3
  have SR := Lib.hid hsrc
  have SN := Lib.hid hs
  have HB := Lib.hid (Hld.at' (w.alloc (.cells #[.slice A r.b.length c, .int .i64 r.err] 40)) 40 #[.slice none 0 0, .int .i64 0] (w.heap.size + 1) (by simp))
  clear hsrc hs
  have hl : (r.b.length : Int) ≤ 9223372036854775807 := by omega
  by_cases he : r.err = 0
  · have e1 : (r.err != 0) = false := by simpa using he
    obtain ⟨b, err⟩ := r
    simp only at *
    subst he
    cases b with
    | nil =>
      simp only [List.length_nil] at *
      go_enter Tryd.func50, Tryd.ntmps50
      go_wp2
      go_ret
      exact ⟨rfl, (Only.refl _ _).alloc _⟩
    | cons b t =>
      simp only [List.length_cons] at *
      clear hl
      have S2 := Lib.hid (SR.out.alloc (.cells #[.slice A (t.length + 1) c, .int .i64 0] 40))
      obtain ⟨ad, rfl, _, _, hc⟩ := S2.out.2 (by simp)
      have d1 : (w.alloc (.cells #[.slice (some ad) (t.length + 1) c, .int .i64 0] 40)).cell? ad = some (.int .u8 b.toNat) := by
        have d0 := hc 0 (.int .u8 b.toNat) rfl
        have e : ad.add 0 = ad := by unfold Addr.add; split <;> simp_all
        rw [e] at d0
        exact d0
      clear hc
      have hm : (⟨b :: t, 0⟩ : Rd).more = (b != 101) := rfl
      have e2 : ((b.toNat : Int) != 101) = (b != 101) := by
        have := u8_beq b 101
        simp only [bne, show ((101 : UInt8).toNat : Int) = 101 from rfl] at this ⊢
        rw [this]
      cases hx : (b != 101)
      all_goals rw [hx] at e2 hm
      all_goals rw [hm]
      all_goals clear hm
      · go_enter Tryd.func50, Tryd.ntmps50
        go_wp2
        go_ret
        exact ⟨rfl, (Only.refl _ _).alloc _⟩
      · go_enter Tryd.func50, Tryd.ntmps50
        go_wp2
        go_ret
        exact ⟨rfl, (Only.refl _ _).alloc _⟩
  · have e1 : (r.err == 0) = false := by simpa using he
    have hm : r.more = false := by unfold Rd.more; rw [SN.out he]
    rw [hm]
    clear he hm
    go_enter Tryd.func50, Tryd.ntmps50
    go_wp2
    go_ret
    exact ⟨rfl, (Only.refl _ _).alloc _⟩
end
theorem Rv.mono {S S' : Nat → Prop} {w : World} {v : Value} {r : Rd} (h : Rv S w v r) (hS : ∀ k, S k → k < w.heap.size → S' k) : Rv S' w v r := by
  obtain ⟨A, c, e, ⟨A', c', e', h1, h2⟩, hs⟩ := h
  exact ⟨A, c, e, ⟨A', c', e', h1.mono hS, h2⟩, hs⟩
theorem ref_rtext (S : Nat → Prop) (v : Value) (r : Rd) (w : World) (h : Rv S w v r) (m : Int) : Calls Tryd.prog 48 #[v, .int .i64 m] w fun e w' => ∃ x, e = .returned (.tuple #[x, .string ⟨(r.text m).2.toArray⟩]) ∧ Rv S w' x (r.text m).1 ∧ Only Noth w w' := by
  refine (ref_rtext0 (fun k => S k ∧ k < w.heap.size) v r w (h.mono fun k hk hl => ⟨hk, hl⟩) (fun k hk => hk.2) m).mono ?_
  rintro e w' ⟨x, h1, h2, h3⟩
  exact ⟨x, h1, h2.mono fun k hk _ => hk.1, h3⟩
end Go.Proofs.YtjdgmnaemopfdaaDoor.In
namespace Go.Proofs.YtjdgmnaemopfdaaDoor
open Go.RowKit Go.Lib
set_option linter.unusedVariables false
set_option maxRecDepth 100000
attribute [local go_sem ↓] Go.wp_at_zero Go.wp_at_succ

theorem rb_v {S : Nat → Prop} (v : Value) (r r' : Rd) (d : UInt8) (hr : r.byte d = r') (w : World) (h : In.Rv S w v r) : Calls Tryd.prog 49 #[v, .int .u8 d.toNat] w fun e w' => ∃ A c, e = .returned (.agg #[.slice A r'.b.length c, .int .i64 r'.err]) ∧ In.Rv S w' (.agg #[.slice A r'.b.length c, .int .i64 r'.err]) r' ∧ Only Noth w w' := by
  subst hr
  refine (In.ref_byte S v r w h d).mono ?_
  rintro e w' ⟨x, rfl, hx, ho⟩
  obtain ⟨A, c, rfl, -, -⟩ := id hx
  exact ⟨A, c, rfl, hx, ho⟩
theorem ri_v {S : Nat → Prop} (v : Value) (r r' : Rd) (n : Int) (hr : r.int = (r', n)) (w : World) (h : In.Rv S w v r) : Calls Tryd.prog 47 #[v] w fun e w' => ∃ A c, e = .returned (.tuple #[.agg #[.slice A r'.b.length c, .int .i64 r'.err], .int .i64 n]) ∧ In.Rv S w' (.agg #[.slice A r'.b.length c, .int .i64 r'.err]) r' ∧ Only Noth w w' := by
  refine (In.ref_rint S v r w h).mono ?_
  rw [hr]
  rintro e w' ⟨x, rfl, hx, ho⟩
  obtain ⟨A, c, rfl, -, -⟩ := id hx
  exact ⟨A, c, rfl, hx, ho⟩
theorem rt_v {S : Nat → Prop} (v : Value) (r r' : Rd) (m : Int) (k : ByteArray) (hr : r.text m = (r', k.data.toList)) (w : World) (h : In.Rv S w v r) : Calls Tryd.prog 48 #[v, .int .i64 m] w fun e w' => ∃ A c, e = .returned (.tuple #[.agg #[.slice A r'.b.length c, .int .i64 r'.err], .string k]) ∧ In.Rv S w' (.agg #[.slice A r'.b.length c, .int .i64 r'.err]) r' ∧ Only Noth w w' := by
  refine (In.ref_rtext S v r w h m).mono ?_
  rw [hr]
  rintro e w' ⟨x, rfl, hx, ho⟩
  obtain ⟨A, c, rfl, -, -⟩ := id hx
  exact ⟨A, c, rfl, hx, ho⟩
theorem wpList_store_str {ops : Array Oper} {rest : List Oper} {o : Oper} {a : Act} {w : World} {Q : Exit → Act → World → Prop} (hgd : o.guard = none) (hdst : o.dst = none) (x y : Operand) (ho : o.op = .store 9 x y)
    (g i : Nat) (hx : a.eval x = .pointer (some ⟨g, i, none⟩)) (n : ByteArray) (hy : a.eval y = .string n) (t : TypeId) (cs : Array Value) (hg : Hld w g t cs) (u : Value) (hu : cs[i]? = some u)
    (h : ∀ w', Hld w' g t (cs.setIfInBounds i (.string n)) → Only (fun k => k = g) w w' → wpList Tryd.prog ops Q rest a w') : wpList Tryd.prog ops Q (o :: rest) a w := by
  refine wpList_plain hgd fun K hK => ?_
  have c0 := (hg.cell i).trans hu
  have f0 := hg.free i
  have := hK _ _ (h _ (hg.set_ i (.string n)) ((Only.refl (fun k => k = g) w).setCell (p := ⟨g, i, none⟩) (fun _ => rfl) _))
  have hp : ∀ v, a.put none v = a := fun _ => rfl
  unfold Oper.wp execOp
  simp only [ho, hx, hy]
  go_simp
  simpa [Oper.upon, hdst, hp] using this
theorem wpN_store_str {ops : Array Oper} {Q : Exit → Act → World → Prop} {md : Region.Mode} {F : Nat → Prop} {w0 : World} {i : Nat} {o : Oper} {n' : Nat} {listed : Array Bool} {a : Act} {w : World} (hr : Region.ready md ops listed = [i]) (hi : ops[i]? = some o) (hw : Region.wanted o (yielded ops a.tmps) = true)
    (hdst : o.dst = none) (x y : Operand) (ho : o.op = .store 9 x y) (g k : Nat) (hx : a.eval x = .pointer (some ⟨g, k, none⟩)) (n : ByteArray) (hy : a.eval y = .string n) (t : TypeId) (cs : Array Value) (hg : Hld w g t cs) (u : Value) (hu : cs[k]? = some u)
    (hS : Only F w0 w) (hF : F g)
    (h : ∀ w', Hld w' g t (cs.setIfInBounds k (.string n)) → Only (At g) w w' → Only F w0 w' → wpN Tryd.prog md ops Q F w0 n' (listed.setIfInBounds i true) a w') : wpN Tryd.prog md ops Q F w0 (n' + 1) listed a w := by
  refine wpN_one hr hi hw (fun w1 h1 => ?_)
  have hg1 := hg.only h1 (fun h => h)
  have c0 := (hg1.cell k).trans hu
  have f0 := hg1.free k
  have hA : Only (At g) w (w1.setCell ⟨g, k, none⟩ (.string n)) := (Only.at_of h1).at_tr ((Only.refl (At g) w1).setCell (p := ⟨g, k, none⟩) (fun _ => rfl) _)
  have hE : Only F w0 (w1.setCell ⟨g, k, none⟩ (.string n)) := hS.trans hA (fun j hj _ => by have hj : j = g := hj; rw [hj]; exact hF)
  have K := And.intro hE (h _ (hg1.set_ k (.string n)) hA hE)
  have hp : ∀ v, a.put none v = a := fun _ => rfl
  unfold Oper.wp execOp
  simp only [ho, hx, hy]
  go_simp
  first | done | simpa [Oper.upon, hdst, hp] using K
theorem wpList_store_int {ops : Array Oper} {rest : List Oper} {o : Oper} {a : Act} {w : World} {Q : Exit → Act → World → Prop} (hgd : o.guard = none) (hdst : o.dst = none) (x y : Operand) (ho : o.op = .store 3 x y)
    (g i : Nat) (hx : a.eval x = .pointer (some ⟨g, i, none⟩)) (n : Int) (hy : a.eval y = .int .i64 n) (t : TypeId) (cs : Array Value) (hg : Hld w g t cs) (u : Value) (hu : cs[i]? = some u)
    (h : ∀ w', Hld w' g t (cs.setIfInBounds i (.int .i64 n)) → Only (fun k => k = g) w w' → wpList Tryd.prog ops Q rest a w') : wpList Tryd.prog ops Q (o :: rest) a w := by
  refine wpList_plain hgd fun K hK => ?_
  have c0 := (hg.cell i).trans hu
  have f0 := hg.free i
  have := hK _ _ (h _ (hg.set_ i (.int .i64 n)) ((Only.refl (fun k => k = g) w).setCell (p := ⟨g, i, none⟩) (fun _ => rfl) _))
  have hp : ∀ v, a.put none v = a := fun _ => rfl
  unfold Oper.wp execOp
  simp only [ho, hx, hy]
  go_simp
  simpa [Oper.upon, hdst, hp] using this
theorem wpN_store_int {ops : Array Oper} {Q : Exit → Act → World → Prop} {md : Region.Mode} {F : Nat → Prop} {w0 : World} {i : Nat} {o : Oper} {n' : Nat} {listed : Array Bool} {a : Act} {w : World} (hr : Region.ready md ops listed = [i]) (hi : ops[i]? = some o) (hw : Region.wanted o (yielded ops a.tmps) = true)
    (hdst : o.dst = none) (x y : Operand) (ho : o.op = .store 3 x y) (g k : Nat) (hx : a.eval x = .pointer (some ⟨g, k, none⟩)) (n : Int) (hy : a.eval y = .int .i64 n) (t : TypeId) (cs : Array Value) (hg : Hld w g t cs) (u : Value) (hu : cs[k]? = some u)
    (hS : Only F w0 w) (hF : F g)
    (h : ∀ w', Hld w' g t (cs.setIfInBounds k (.int .i64 n)) → Only (At g) w w' → Only F w0 w' → wpN Tryd.prog md ops Q F w0 n' (listed.setIfInBounds i true) a w') : wpN Tryd.prog md ops Q F w0 (n' + 1) listed a w := by
  refine wpN_one hr hi hw (fun w1 h1 => ?_)
  have hg1 := hg.only h1 (fun h => h)
  have c0 := (hg1.cell k).trans hu
  have f0 := hg1.free k
  have hA : Only (At g) w (w1.setCell ⟨g, k, none⟩ (.int .i64 n)) := (Only.at_of h1).at_tr ((Only.refl (At g) w1).setCell (p := ⟨g, k, none⟩) (fun _ => rfl) _)
  have hE : Only F w0 (w1.setCell ⟨g, k, none⟩ (.int .i64 n)) := hS.trans hA (fun j hj _ => by have hj : j = g := hj; rw [hj]; exact hF)
  have K := And.intro hE (h _ (hg1.set_ k (.int .i64 n)) hA hE)
  have hp : ∀ v, a.put none v = a := fun _ => rfl
  unfold Oper.wp execOp
  simp only [ho, hx, hy]
  go_simp
  first | done | simpa [Oper.upon, hdst, hp] using K
theorem wpList_store_i64 {ops : Array Oper} {rest : List Oper} {o : Oper} {a : Act} {w : World} {Q : Exit → Act → World → Prop} (hgd : o.guard = none) (hdst : o.dst = none) (x y : Operand) (ho : o.op = .store 2 x y)
    (g i : Nat) (hx : a.eval x = .pointer (some ⟨g, i, none⟩)) (n : Int) (hy : a.eval y = .int .i64 n) (t : TypeId) (cs : Array Value) (hg : Hld w g t cs) (u : Value) (hu : cs[i]? = some u)
    (h : ∀ w', Hld w' g t (cs.setIfInBounds i (.int .i64 n)) → Only (fun k => k = g) w w' → wpList Tryd.prog ops Q rest a w') : wpList Tryd.prog ops Q (o :: rest) a w := by
  refine wpList_plain hgd fun K hK => ?_
  have c0 := (hg.cell i).trans hu
  have f0 := hg.free i
  have := hK _ _ (h _ (hg.set_ i (.int .i64 n)) ((Only.refl (fun k => k = g) w).setCell (p := ⟨g, i, none⟩) (fun _ => rfl) _))
  have hp : ∀ v, a.put none v = a := fun _ => rfl
  unfold Oper.wp execOp
  simp only [ho, hx, hy]
  go_simp
  simpa [Oper.upon, hdst, hp] using this
theorem wpN_store_i64 {ops : Array Oper} {Q : Exit → Act → World → Prop} {md : Region.Mode} {F : Nat → Prop} {w0 : World} {i : Nat} {o : Oper} {n' : Nat} {listed : Array Bool} {a : Act} {w : World} (hr : Region.ready md ops listed = [i]) (hi : ops[i]? = some o) (hw : Region.wanted o (yielded ops a.tmps) = true)
    (hdst : o.dst = none) (x y : Operand) (ho : o.op = .store 2 x y) (g k : Nat) (hx : a.eval x = .pointer (some ⟨g, k, none⟩)) (n : Int) (hy : a.eval y = .int .i64 n) (t : TypeId) (cs : Array Value) (hg : Hld w g t cs) (u : Value) (hu : cs[k]? = some u)
    (hS : Only F w0 w) (hF : F g)
    (h : ∀ w', Hld w' g t (cs.setIfInBounds k (.int .i64 n)) → Only (At g) w w' → Only F w0 w' → wpN Tryd.prog md ops Q F w0 n' (listed.setIfInBounds i true) a w') : wpN Tryd.prog md ops Q F w0 (n' + 1) listed a w := by
  refine wpN_one hr hi hw (fun w1 h1 => ?_)
  have hg1 := hg.only h1 (fun h => h)
  have c0 := (hg1.cell k).trans hu
  have f0 := hg1.free k
  have hA : Only (At g) w (w1.setCell ⟨g, k, none⟩ (.int .i64 n)) := (Only.at_of h1).at_tr ((Only.refl (At g) w1).setCell (p := ⟨g, k, none⟩) (fun _ => rfl) _)
  have hE : Only F w0 (w1.setCell ⟨g, k, none⟩ (.int .i64 n)) := hS.trans hA (fun j hj _ => by have hj : j = g := hj; rw [hj]; exact hF)
  have K := And.intro hE (h _ (hg1.set_ k (.int .i64 n)) hA hE)
  have hp : ∀ v, a.put none v = a := fun _ => rfl
  unfold Oper.wp execOp
  simp only [ho, hx, hy]
  go_simp
  first | done | simpa [Oper.upon, hdst, hp] using K
theorem wpList_store_u16 {ops : Array Oper} {rest : List Oper} {o : Oper} {a : Act} {w : World} {Q : Exit → Act → World → Prop} (hgd : o.guard = none) (hdst : o.dst = none) (x y : Operand) (ho : o.op = .store 46 x y)
    (g i : Nat) (hx : a.eval x = .pointer (some ⟨g, i, none⟩)) (n : Int) (hy : a.eval y = .int .u16 n) (t : TypeId) (cs : Array Value) (hg : Hld w g t cs) (u : Value) (hu : cs[i]? = some u)
    (h : ∀ w', Hld w' g t (cs.setIfInBounds i (.int .u16 n)) → Only (fun k => k = g) w w' → wpList Tryd.prog ops Q rest a w') : wpList Tryd.prog ops Q (o :: rest) a w := by
  refine wpList_plain hgd fun K hK => ?_
  have c0 := (hg.cell i).trans hu
  have f0 := hg.free i
  have := hK _ _ (h _ (hg.set_ i (.int .u16 n)) ((Only.refl (fun k => k = g) w).setCell (p := ⟨g, i, none⟩) (fun _ => rfl) _))
  have hp : ∀ v, a.put none v = a := fun _ => rfl
  unfold Oper.wp execOp
  simp only [ho, hx, hy]
  go_simp
  simpa [Oper.upon, hdst, hp] using this
theorem wpN_store_u16 {ops : Array Oper} {Q : Exit → Act → World → Prop} {md : Region.Mode} {F : Nat → Prop} {w0 : World} {i : Nat} {o : Oper} {n' : Nat} {listed : Array Bool} {a : Act} {w : World} (hr : Region.ready md ops listed = [i]) (hi : ops[i]? = some o) (hw : Region.wanted o (yielded ops a.tmps) = true)
    (hdst : o.dst = none) (x y : Operand) (ho : o.op = .store 46 x y) (g k : Nat) (hx : a.eval x = .pointer (some ⟨g, k, none⟩)) (n : Int) (hy : a.eval y = .int .u16 n) (t : TypeId) (cs : Array Value) (hg : Hld w g t cs) (u : Value) (hu : cs[k]? = some u)
    (hS : Only F w0 w) (hF : F g)
    (h : ∀ w', Hld w' g t (cs.setIfInBounds k (.int .u16 n)) → Only (At g) w w' → Only F w0 w' → wpN Tryd.prog md ops Q F w0 n' (listed.setIfInBounds i true) a w') : wpN Tryd.prog md ops Q F w0 (n' + 1) listed a w := by
  refine wpN_one hr hi hw (fun w1 h1 => ?_)
  have hg1 := hg.only h1 (fun h => h)
  have c0 := (hg1.cell k).trans hu
  have f0 := hg1.free k
  have hA : Only (At g) w (w1.setCell ⟨g, k, none⟩ (.int .u16 n)) := (Only.at_of h1).at_tr ((Only.refl (At g) w1).setCell (p := ⟨g, k, none⟩) (fun _ => rfl) _)
  have hE : Only F w0 (w1.setCell ⟨g, k, none⟩ (.int .u16 n)) := hS.trans hA (fun j hj _ => by have hj : j = g := hj; rw [hj]; exact hF)
  have K := And.intro hE (h _ (hg1.set_ k (.int .u16 n)) hA hE)
  have hp : ∀ v, a.put none v = a := fun _ => rfl
  unfold Oper.wp execOp
  simp only [ho, hx, hy]
  go_simp
  first | done | simpa [Oper.upon, hdst, hp] using K
theorem wpList_store_u8 {ops : Array Oper} {rest : List Oper} {o : Oper} {a : Act} {w : World} {Q : Exit → Act → World → Prop} (hgd : o.guard = none) (hdst : o.dst = none) (x y : Operand) (ho : o.op = .store 5 x y)
    (g i : Nat) (hx : a.eval x = .pointer (some ⟨g, i, none⟩)) (n : Int) (hy : a.eval y = .int .u8 n) (t : TypeId) (cs : Array Value) (hg : Hld w g t cs) (u : Value) (hu : cs[i]? = some u)
    (h : ∀ w', Hld w' g t (cs.setIfInBounds i (.int .u8 n)) → Only (fun k => k = g) w w' → wpList Tryd.prog ops Q rest a w') : wpList Tryd.prog ops Q (o :: rest) a w := by
  refine wpList_plain hgd fun K hK => ?_
  have c0 := (hg.cell i).trans hu
  have f0 := hg.free i
  have := hK _ _ (h _ (hg.set_ i (.int .u8 n)) ((Only.refl (fun k => k = g) w).setCell (p := ⟨g, i, none⟩) (fun _ => rfl) _))
  have hp : ∀ v, a.put none v = a := fun _ => rfl
  unfold Oper.wp execOp
  simp only [ho, hx, hy]
  go_simp
  simpa [Oper.upon, hdst, hp] using this
theorem wpN_store_u8 {ops : Array Oper} {Q : Exit → Act → World → Prop} {md : Region.Mode} {F : Nat → Prop} {w0 : World} {i : Nat} {o : Oper} {n' : Nat} {listed : Array Bool} {a : Act} {w : World} (hr : Region.ready md ops listed = [i]) (hi : ops[i]? = some o) (hw : Region.wanted o (yielded ops a.tmps) = true)
    (hdst : o.dst = none) (x y : Operand) (ho : o.op = .store 5 x y) (g k : Nat) (hx : a.eval x = .pointer (some ⟨g, k, none⟩)) (n : Int) (hy : a.eval y = .int .u8 n) (t : TypeId) (cs : Array Value) (hg : Hld w g t cs) (u : Value) (hu : cs[k]? = some u)
    (hS : Only F w0 w) (hF : F g)
    (h : ∀ w', Hld w' g t (cs.setIfInBounds k (.int .u8 n)) → Only (At g) w w' → Only F w0 w' → wpN Tryd.prog md ops Q F w0 n' (listed.setIfInBounds i true) a w') : wpN Tryd.prog md ops Q F w0 (n' + 1) listed a w := by
  refine wpN_one hr hi hw (fun w1 h1 => ?_)
  have hg1 := hg.only h1 (fun h => h)
  have c0 := (hg1.cell k).trans hu
  have f0 := hg1.free k
  have hA : Only (At g) w (w1.setCell ⟨g, k, none⟩ (.int .u8 n)) := (Only.at_of h1).at_tr ((Only.refl (At g) w1).setCell (p := ⟨g, k, none⟩) (fun _ => rfl) _)
  have hE : Only F w0 (w1.setCell ⟨g, k, none⟩ (.int .u8 n)) := hS.trans hA (fun j hj _ => by have hj : j = g := hj; rw [hj]; exact hF)
  have K := And.intro hE (h _ (hg1.set_ k (.int .u8 n)) hA hE)
  have hp : ∀ v, a.put none v = a := fun _ => rfl
  unfold Oper.wp execOp
  simp only [ho, hx, hy]
  go_simp
  first | done | simpa [Oper.upon, hdst, hp] using K
end Go.Proofs.YtjdgmnaemopfdaaDoor
namespace Go.Proofs.YtjdgmnaemopfdaaDoor
open Go.RowKit Go.Lib
set_option linter.unusedVariables false
set_option maxRecDepth 100000
attribute [local go_sem ↓] Go.wp_at_zero Go.wp_at_succ

/-- Within the document's Read: the reader, the entry, the results. -/
structure RE9 (S : Nat → Prop) (w W : World) (A : Option Addr) (c : Nat) (r : Rd) (cs : Array Value) : Prop where
  box : Hld W w.heap.size 40 #[.slice A r.b.length c, .int .i64 r.err]
  rv : In.Rv S W (.agg #[.slice A r.b.length c, .int .i64 r.err]) r
  e : Hld W (w.heap.size + 1 + 1 + 1) 64 cs
  r2 : Hld W (w.heap.size + 1) 40 #[.slice none 0 0, .int .i64 0]
  r3 : Hld W (w.heap.size + 1 + 1) 64 #[.string ⟨#[]⟩, .int .i64 0, .int .u16 0, .string ⟨#[]⟩, .int .i64 0]
  only : Only Noth w W
section
variable {S : Nat → Prop} {w W W1 W2 : World} {A A' : Option Addr} {c c' : Nat} {r r' : Rd} {cs cs' : Array Value}
theorem rv_only2 {S F : Nat → Prop} {w W W2 : World} {v : Value} {r : Rd} (h : In.Rv S W v r) (hS : ∀ k, S k → k < w.heap.size) (ho : Only F W W2) (hF : ∀ k, F k → w.heap.size ≤ k) : In.Rv S W2 v r := by
  obtain ⟨A, c, e, hp, hs⟩ := h
  exact ⟨A, c, e, hp.only ho (fun k hk hf => by have := hS k hk; have := hF k hf; omega), hs⟩
theorem RE9.call (h : RE9 S w W A c r cs) (ho : Only Noth W W1) : RE9 S w W1 A c r cs :=
  ⟨h.box.only ho (fun h => h), h.rv.noth ho, h.e.only ho (fun h => h), h.r2.only ho (fun h => h), h.r3.only ho (fun h => h), h.only.tr ho⟩
theorem RE9.putr (h : RE9 S w W A c r cs) (hS : ∀ k, S k → k < w.heap.size) (hv : In.Rv S W (.agg #[.slice A' r'.b.length c', .int .i64 r'.err]) r') (hb : Hld W2 w.heap.size 40 #[.slice A' r'.b.length c', .int .i64 r'.err]) (ho : Only (fun k => k = w.heap.size) W W2) : RE9 S w W2 A' c' r' cs := by
  obtain ⟨B, d, e, hp, hs⟩ := hv
  exact ⟨hb, ⟨B, d, e, hp.only ho (fun k hk e => by have := hS k hk; have e : k = w.heap.size := e; omega), hs⟩, h.e.only ho (fun e => by have e : w.heap.size + 1 + 1 + 1 = w.heap.size := e; omega), h.r2.only ho (fun e => by have e : w.heap.size + 1 = w.heap.size := e; omega), h.r3.only ho (fun e => by have e : w.heap.size + 1 + 1 = w.heap.size := e; omega),
    h.only.trans ho (fun j hj hl => by have hj : j = w.heap.size := hj; omega)⟩
theorem RE9.pute (h : RE9 S w W A c r cs) (hS : ∀ k, S k → k < w.heap.size) (hb : Hld W2 (w.heap.size + 1 + 1 + 1) 64 cs') (ho : Only (fun k => k = w.heap.size + 1 + 1 + 1) W W2) : RE9 S w W2 A c r cs' := by
  obtain ⟨B, d, e, hp, hs⟩ := h.rv
  exact ⟨h.box.only ho (fun e => by have e : w.heap.size = w.heap.size + 1 + 1 + 1 := e; omega), ⟨B, d, e, hp.only ho (fun k hk e => by have := hS k hk; have e : k = w.heap.size + 1 + 1 + 1 := e; omega), hs⟩, hb, h.r2.only ho (fun e => by have e : w.heap.size + 1 = w.heap.size + 1 + 1 + 1 := e; omega), h.r3.only ho (fun e => by have e : w.heap.size + 1 + 1 = w.heap.size + 1 + 1 + 1 := e; omega),
    h.only.trans ho (fun j hj hl => by have hj : j = w.heap.size + 1 + 1 + 1 := hj; omega)⟩
end
/-- What the document's Read of an entry hands back. -/
def EReadAns (S : Nat → Prop) (y : Ent) (z : Rd) (e : Ending) (w' : World) : Prop := ∃ A c, e = .returned (.tuple #[.agg #[.slice A z.b.length c, .int .i64 z.err], .agg #[.string y.key, .int .i64 y.time, .int .u16 y.org, .string y.val, .int .i64 y.til]]) ∧ In.Rv S w' (.agg #[.slice A z.b.length c, .int .i64 z.err]) z
set_option maxHeartbeats 8000000 in
theorem ref_eread0 (S : Nat → Prop) (v : Value) (r : Rd) (y : Ent) (z : Rd) (hr : Ent.Reads r y z) (w : World) (hS : ∀ k, S k → k < w.heap.size) (h : In.Rv S w v r) : Calls Tryd.prog 63 #[v] w fun e w' => EReadAns S y z e w' ∧ Only Noth w w' := by
  obtain ⟨r1, r2, r3, r4, r5, r6, k, u, t, o, n, hs, hy⟩ := hr
  have hk : k.size ≤ 1024 := by
    have h1 := text_long r1 1024
    rw [hs.a2] at h1
    have h1 : (k.size : Int) ≤ max 1024 0 := h1
    omega
  have hu : u.size ≤ 8192 := by
    have h1 := text_long r4 8192
    rw [hs.a5] at h1
    have h1 : (u.size : Int) ≤ max 8192 0 := h1
    omega
  have HS := Lib.hid hs
  have HY := Lib.hid hy
  have SL := Lib.hid hS
  obtain ⟨A, c, rfl, hp, hsn⟩ := id h
  have RV := Lib.hid h
  have M0 := Lib.hid (show RE9 S w ((((w.alloc (.cells #[.slice A r.b.length c, .int .i64 r.err] 40)).alloc (.cells #[.slice none 0 0, .int .i64 0] 40)).alloc (.cells #[.string ⟨#[]⟩, .int .i64 0, .int .u16 0, .string ⟨#[]⟩, .int .i64 0] 64)).alloc (.cells #[.string ⟨#[]⟩, .int .i64 0, .int .u16 0, .string ⟨#[]⟩, .int .i64 0] 64)) A c r #[.string ⟨#[]⟩, .int .i64 0, .int .u16 0, .string ⟨#[]⟩, .int .i64 0] from by
    have a1 := (Only.refl Noth (w.alloc (.cells #[.slice A r.b.length c, .int .i64 r.err] 40))).alloc (.cells #[.slice none 0 0, .int .i64 0] 40)
    have a2 := (Only.refl Noth ((w.alloc (.cells #[.slice A r.b.length c, .int .i64 r.err] 40)).alloc (.cells #[.slice none 0 0, .int .i64 0] 40))).alloc (.cells #[.string ⟨#[]⟩, .int .i64 0, .int .u16 0, .string ⟨#[]⟩, .int .i64 0] 64)
    have a3 := (Only.refl Noth (((w.alloc (.cells #[.slice A r.b.length c, .int .i64 r.err] 40)).alloc (.cells #[.slice none 0 0, .int .i64 0] 40)).alloc (.cells #[.string ⟨#[]⟩, .int .i64 0, .int .u16 0, .string ⟨#[]⟩, .int .i64 0] 64))).alloc (.cells #[.string ⟨#[]⟩, .int .i64 0, .int .u16 0, .string ⟨#[]⟩, .int .i64 0] 64)
    have b0 := ((Hld.new w 40 #[.slice A r.b.length c, .int .i64 r.err]).only a1 (fun h => h)).only (a2.tr a3) (fun h => h)
    have b1 := (Hld.new (w.alloc (.cells #[.slice A r.b.length c, .int .i64 r.err] 40)) 40 #[.slice none 0 0, .int .i64 0]).only (a2.tr a3) (fun h => h)
    have b2 := (Hld.new ((w.alloc (.cells #[.slice A r.b.length c, .int .i64 r.err] 40)).alloc (.cells #[.slice none 0 0, .int .i64 0] 40)) 64 #[.string ⟨#[]⟩, .int .i64 0, .int .u16 0, .string ⟨#[]⟩, .int .i64 0]).only a3 (fun h => h)
    have b3 := Hld.new (((w.alloc (.cells #[.slice A r.b.length c, .int .i64 r.err] 40)).alloc (.cells #[.slice none 0 0, .int .i64 0] 40)).alloc (.cells #[.string ⟨#[]⟩, .int .i64 0, .int .u16 0, .string ⟨#[]⟩, .int .i64 0] 64)) 64 #[.string ⟨#[]⟩, .int .i64 0, .int .u16 0, .string ⟨#[]⟩, .int .i64 0]
    simp only [World.size_alloc] at b1 b2 b3
    have a := ((((Only.refl Noth w).alloc (.cells #[.slice A r.b.length c, .int .i64 r.err] 40)).tr a1).tr a2).tr a3
    exact ⟨b0, h.noth a, b3, b1, b2, a⟩)
  clear hs hy hS h hp hsn
  go_enter Tryd.func63, Tryd.ntmps63
  go_wp2_with fail
  refine (rb_v _ r r1 108 HS.out.a1 _ M0.out.rv).mono ?_
  rintro e w8 ⟨A2, c2, rfl, hx, ho⟩
  have HX := Lib.hid hx
  have K := Lib.hid (M0.out.call ho)
  clear hx ho
  go_wp2_with (refine wpList_store_whole rfl rfl 40 (.tmp 1) (.tmp 9) rfl w.heap.size rfl #[.slice A2 r1.b.length c2, .int .i64 r1.err] rfl 40 _ K.out.box rfl (by simp [Value.oneCell']) (by kernel_rfl) ?_; intro w9 hb9 ho9 _; have K := Lib.hid (K.out.putr SL.out HX.out hb9 ho9); obtain ⟨y0, y1⟩ := hb9.two; clear hb9 ho9)
  refine (rt_v _ r1 r2 1024 k HS.out.a2 _ K.out.rv).mono ?_
  rintro e w8 ⟨A2, c2, rfl, hx, ho⟩
  have HX := Lib.hid hx
  have K := Lib.hid (K.out.call ho)
  clear hx ho
  clear y0 y1
  go_wp2_with (first | (refine wpList_store_whole rfl rfl 40 (.tmp 1) (.tmp 13) rfl w.heap.size rfl #[.slice A2 r2.b.length c2, .int .i64 r2.err] rfl 40 _ K.out.box rfl (by simp [Value.oneCell']) (by kernel_rfl) ?_; intro w9 hb9 ho9 _; have K := Lib.hid (K.out.putr SL.out HX.out hb9 ho9); obtain ⟨y0, y1⟩ := hb9.two; clear hb9 ho9) | (refine wpList_store_str rfl rfl (.tmp 15) (.tmp 14) rfl (w.heap.size + 1 + 1 + 1) 0 rfl (k) rfl 64 _ K.out.e _ rfl ?_; intro w9 hb9 ho9; have K := Lib.hid (K.out.pute SL.out hb9 ho9); obtain ⟨y0, y1⟩ := K.out.box.two; clear hb9 ho9))
  refine (ri_v _ r2 r3 t HS.out.a3 _ K.out.rv).mono ?_
  rintro e w8 ⟨A2, c2, rfl, hx, ho⟩
  have HX := Lib.hid hx
  have K := Lib.hid (K.out.call ho)
  clear hx ho
  clear y0 y1
  go_wp2_with (refine wpList_store_whole rfl rfl 40 (.tmp 1) (.tmp 19) rfl w.heap.size rfl #[.slice A2 r3.b.length c2, .int .i64 r3.err] rfl 40 _ K.out.box rfl (by simp [Value.oneCell']) (by kernel_rfl) ?_; intro w9 hb9 ho9 _; have K := Lib.hid (K.out.putr SL.out HX.out hb9 ho9); obtain ⟨y0, y1⟩ := hb9.two; clear hb9 ho9)
  refine (ri_v _ r3 r4 o HS.out.a4 _ K.out.rv).mono ?_
  rintro e w8 ⟨A2, c2, rfl, hx, ho⟩
  have HX := Lib.hid hx
  have K := Lib.hid (K.out.call ho)
  clear hx ho
  clear y0 y1
  go_wp2_with (refine wpList_store_whole rfl rfl 40 (.tmp 1) (.tmp 24) rfl w.heap.size rfl #[.slice A2 r4.b.length c2, .int .i64 r4.err] rfl 40 _ K.out.box rfl (by simp [Value.oneCell']) (by kernel_rfl) ?_; intro w9 hb9 ho9 _; have K := Lib.hid (K.out.putr SL.out HX.out hb9 ho9); obtain ⟨y0, y1⟩ := hb9.two; clear hb9 ho9)
  refine (rt_v _ r4 r5 8192 u HS.out.a5 _ K.out.rv).mono ?_
  rintro e w8 ⟨A2, c2, rfl, hx, ho⟩
  have HX := Lib.hid hx
  have K := Lib.hid (K.out.call ho)
  clear hx ho
  clear y0 y1
  go_wp2_with (first | (refine wpList_store_whole rfl rfl 40 (.tmp 1) (.tmp 29) rfl w.heap.size rfl #[.slice A2 r5.b.length c2, .int .i64 r5.err] rfl 40 _ K.out.box rfl (by simp [Value.oneCell']) (by kernel_rfl) ?_; intro w9 hb9 ho9 _; have K := Lib.hid (K.out.putr SL.out HX.out hb9 ho9); obtain ⟨y0, y1⟩ := hb9.two; clear hb9 ho9) | (refine wpList_store_str rfl rfl (.tmp 31) (.tmp 30) rfl (w.heap.size + 1 + 1 + 1) 3 rfl (u) rfl 64 _ K.out.e _ rfl ?_; intro w9 hb9 ho9; have K := Lib.hid (K.out.pute SL.out hb9 ho9); obtain ⟨y0, y1⟩ := K.out.box.two; clear hb9 ho9))
  refine (ri_v _ r5 r6 n HS.out.a6 _ K.out.rv).mono ?_
  rintro e w8 ⟨A2, c2, rfl, hx, ho⟩
  have HX := Lib.hid hx
  have K := Lib.hid (K.out.call ho)
  clear hx ho
  clear y0 y1
  go_wp2_with (refine wpList_store_whole rfl rfl 40 (.tmp 1) (.tmp 35) rfl w.heap.size rfl #[.slice A2 r6.b.length c2, .int .i64 r6.err] rfl 40 _ K.out.box rfl (by simp [Value.oneCell']) (by kernel_rfl) ?_; intro w9 hb9 ho9 _; have K := Lib.hid (K.out.putr SL.out HX.out hb9 ho9); obtain ⟨y0, y1⟩ := hb9.two; clear hb9 ho9)
  refine (rb_v _ r6 z 101 HS.out.a7 _ K.out.rv).mono ?_
  rintro e w8 ⟨A2, c2, rfl, hx, ho⟩
  have HX := Lib.hid hx
  have K := Lib.hid (K.out.call ho)
  clear hx ho
  clear y0 y1
  by_cases g1 : z.err = 0
  · have g1' : (z.err != 0) = false := by simp [g1]
    have G1 := Lib.hid g1
    clear g1
    by_cases g2 : o < 0
    · go_wp2_with (first | (refine wpList_store_whole rfl rfl 40 (.tmp 1) (.tmp 38) rfl w.heap.size rfl #[.slice A2 z.b.length c2, .int .i64 z.err] rfl 40 _ K.out.box rfl (by simp [Value.oneCell']) (by kernel_rfl) ?_; intro w9 hb9 ho9 _; have K := Lib.hid (K.out.putr SL.out HX.out hb9 ho9); obtain ⟨y0, y1⟩ := hb9.two; clear hb9 ho9) | (refine wpList_store_int rfl rfl (.tmp 43) (.tmp 39) rfl (w.heap.size + 1 + 1 + 1) 1 rfl (t) rfl 64 _ K.out.e _ rfl ?_; intro w9 hb9 ho9; have K := Lib.hid (K.out.pute SL.out hb9 ho9); obtain ⟨y0, y1⟩ := K.out.box.two; clear hb9 ho9) | (refine wpList_store_u16 rfl rfl (.tmp 44) (.tmp 41) rfl (w.heap.size + 1 + 1 + 1) 2 rfl (IntKind.u16.wrap o) rfl 64 _ K.out.e _ rfl ?_; intro w9 hb9 ho9; have K := Lib.hid (K.out.pute SL.out hb9 ho9); obtain ⟨y0, y1⟩ := K.out.box.two; clear hb9 ho9) | (refine wpList_store_int rfl rfl (.tmp 45) (.tmp 42) rfl (w.heap.size + 1 + 1 + 1) 4 rfl (n) rfl 64 _ K.out.e _ rfl ?_; intro w9 hb9 ho9; have K := Lib.hid (K.out.pute SL.out hb9 ho9); obtain ⟨y0, y1⟩ := K.out.box.two; obtain ⟨q0, q1, q2, q3, q4⟩ := K.out.e.five; clear hb9 ho9) | (refine wpList_store_whole rfl rfl 40 (.tmp 2) (.tmp 62) rfl (w.heap.size + 1) rfl #[.slice A2 z.b.length c2, .int .i64 z.err] rfl 40 _ K.out.r2 rfl (by simp [Value.oneCell']) (by kernel_rfl) ?_; intro w9 hb9 ho9 _; have Z2 := Lib.hid hb9; have Z3 := Lib.hid (K.out.r3.only ho9 (fun e => by have e : w.heap.size + 1 + 1 = w.heap.size + 1 := e; omega)); have ZV := Lib.hid (rv_only2 K.out.rv SL.out ho9 (fun k hk => by have hk : k = w.heap.size + 1 := hk; omega)); have ZO := Lib.hid (K.out.only.trans ho9 (fun j hj hl => by have hj : j = w.heap.size + 1 := hj; omega)); clear hb9 ho9) | (refine wpList_store_whole rfl rfl 64 (.tmp 3) (.tmp 63) rfl (w.heap.size + 1 + 1) rfl #[.string ⟨#[]⟩, .int .i64 0, .int .u16 0, .string ⟨#[]⟩, .int .i64 0] rfl 64 _ Z3.out rfl (by simp [Value.oneCell']) (by kernel_rfl) ?_; intro w9 hb9 ho9 _; obtain ⟨x0, x1⟩ := (Z2.out.only ho9 (fun e => by have e : w.heap.size + 1 = w.heap.size + 1 + 1 := e; omega)).two; obtain ⟨e0, e1, e2, e3, e4⟩ := hb9.five; have ZV := Lib.hid (rv_only2 ZV.out SL.out ho9 (fun k hk => by have hk : k = w.heap.size + 1 + 1 := hk; omega)); have ZO := Lib.hid (ZO.out.trans ho9 (fun j hj hl => by have hj : j = w.heap.size + 1 + 1 := hj; omega)); clear hb9 ho9))
      refine bodyPost_ret (v := .tuple #[.agg #[.slice A2 z.b.length c2, .int .i64 z.err], .agg #[.string ⟨#[]⟩, .int .i64 0, .int .u16 0, .string ⟨#[]⟩, .int .i64 0]]) (by simp [results, Tryd.results63, go_sem, x0, x1, e0, e1, e2, e3, e4]) rfl ?_
      refine ⟨⟨A2, c2, ?_, ZV.out⟩, ZO.out⟩
      rcases HY.out with ⟨q1, q2, q3, q4, -⟩ | ⟨-, rfl⟩
      · exact absurd g2 (by omega)
      · rfl
    · by_cases g3 : 65535 < o
      · go_wp2_with (first | (refine wpList_store_whole rfl rfl 40 (.tmp 1) (.tmp 38) rfl w.heap.size rfl #[.slice A2 z.b.length c2, .int .i64 z.err] rfl 40 _ K.out.box rfl (by simp [Value.oneCell']) (by kernel_rfl) ?_; intro w9 hb9 ho9 _; have K := Lib.hid (K.out.putr SL.out HX.out hb9 ho9); obtain ⟨y0, y1⟩ := hb9.two; clear hb9 ho9) | (refine wpList_store_int rfl rfl (.tmp 43) (.tmp 39) rfl (w.heap.size + 1 + 1 + 1) 1 rfl (t) rfl 64 _ K.out.e _ rfl ?_; intro w9 hb9 ho9; have K := Lib.hid (K.out.pute SL.out hb9 ho9); obtain ⟨y0, y1⟩ := K.out.box.two; clear hb9 ho9) | (refine wpList_store_u16 rfl rfl (.tmp 44) (.tmp 41) rfl (w.heap.size + 1 + 1 + 1) 2 rfl (IntKind.u16.wrap o) rfl 64 _ K.out.e _ rfl ?_; intro w9 hb9 ho9; have K := Lib.hid (K.out.pute SL.out hb9 ho9); obtain ⟨y0, y1⟩ := K.out.box.two; clear hb9 ho9) | (refine wpList_store_int rfl rfl (.tmp 45) (.tmp 42) rfl (w.heap.size + 1 + 1 + 1) 4 rfl (n) rfl 64 _ K.out.e _ rfl ?_; intro w9 hb9 ho9; have K := Lib.hid (K.out.pute SL.out hb9 ho9); obtain ⟨y0, y1⟩ := K.out.box.two; obtain ⟨q0, q1, q2, q3, q4⟩ := K.out.e.five; clear hb9 ho9) | (refine wpList_store_whole rfl rfl 40 (.tmp 2) (.tmp 62) rfl (w.heap.size + 1) rfl #[.slice A2 z.b.length c2, .int .i64 z.err] rfl 40 _ K.out.r2 rfl (by simp [Value.oneCell']) (by kernel_rfl) ?_; intro w9 hb9 ho9 _; have Z2 := Lib.hid hb9; have Z3 := Lib.hid (K.out.r3.only ho9 (fun e => by have e : w.heap.size + 1 + 1 = w.heap.size + 1 := e; omega)); have ZV := Lib.hid (rv_only2 K.out.rv SL.out ho9 (fun k hk => by have hk : k = w.heap.size + 1 := hk; omega)); have ZO := Lib.hid (K.out.only.trans ho9 (fun j hj hl => by have hj : j = w.heap.size + 1 := hj; omega)); clear hb9 ho9) | (refine wpList_store_whole rfl rfl 64 (.tmp 3) (.tmp 63) rfl (w.heap.size + 1 + 1) rfl #[.string ⟨#[]⟩, .int .i64 0, .int .u16 0, .string ⟨#[]⟩, .int .i64 0] rfl 64 _ Z3.out rfl (by simp [Value.oneCell']) (by kernel_rfl) ?_; intro w9 hb9 ho9 _; obtain ⟨x0, x1⟩ := (Z2.out.only ho9 (fun e => by have e : w.heap.size + 1 = w.heap.size + 1 + 1 := e; omega)).two; obtain ⟨e0, e1, e2, e3, e4⟩ := hb9.five; have ZV := Lib.hid (rv_only2 ZV.out SL.out ho9 (fun k hk => by have hk : k = w.heap.size + 1 + 1 := hk; omega)); have ZO := Lib.hid (ZO.out.trans ho9 (fun j hj hl => by have hj : j = w.heap.size + 1 + 1 := hj; omega)); clear hb9 ho9))
        refine bodyPost_ret (v := .tuple #[.agg #[.slice A2 z.b.length c2, .int .i64 z.err], .agg #[.string ⟨#[]⟩, .int .i64 0, .int .u16 0, .string ⟨#[]⟩, .int .i64 0]]) (by simp [results, Tryd.results63, go_sem, x0, x1, e0, e1, e2, e3, e4]) rfl ?_
        refine ⟨⟨A2, c2, ?_, ZV.out⟩, ZO.out⟩
        rcases HY.out with ⟨q1, q2, q3, q4, -⟩ | ⟨-, rfl⟩
        · exact absurd g3 (by omega)
        · rfl
      · have ew : IntKind.u16.wrap o = o := by simp [IntKind.wrap, IntKind.signed, IntKind.bits]; omega
        go_wp2_with (first | (refine wpList_store_whole rfl rfl 40 (.tmp 1) (.tmp 38) rfl w.heap.size rfl #[.slice A2 z.b.length c2, .int .i64 z.err] rfl 40 _ K.out.box rfl (by simp [Value.oneCell']) (by kernel_rfl) ?_; intro w9 hb9 ho9 _; have K := Lib.hid (K.out.putr SL.out HX.out hb9 ho9); obtain ⟨y0, y1⟩ := hb9.two; clear hb9 ho9) | (refine wpList_store_int rfl rfl (.tmp 43) (.tmp 39) rfl (w.heap.size + 1 + 1 + 1) 1 rfl (t) rfl 64 _ K.out.e _ rfl ?_; intro w9 hb9 ho9; have K := Lib.hid (K.out.pute SL.out hb9 ho9); obtain ⟨y0, y1⟩ := K.out.box.two; clear hb9 ho9) | (refine wpList_store_u16 rfl rfl (.tmp 44) (.tmp 41) rfl (w.heap.size + 1 + 1 + 1) 2 rfl (o) rfl 64 _ K.out.e _ rfl ?_; intro w9 hb9 ho9; have K := Lib.hid (K.out.pute SL.out hb9 ho9); obtain ⟨y0, y1⟩ := K.out.box.two; clear hb9 ho9) | (refine wpList_store_int rfl rfl (.tmp 45) (.tmp 42) rfl (w.heap.size + 1 + 1 + 1) 4 rfl (n) rfl 64 _ K.out.e _ rfl ?_; intro w9 hb9 ho9; have K := Lib.hid (K.out.pute SL.out hb9 ho9); obtain ⟨y0, y1⟩ := K.out.box.two; obtain ⟨q0, q1, q2, q3, q4⟩ := K.out.e.five; clear hb9 ho9))
        refine (ref_check ⟨k, t, o, u, n⟩ (by simp only; omega) (by simp only; omega) _).mono ?_
        rintro e w7 ⟨rfl, ho⟩
        have K := Lib.hid (K.out.call ho)
        obtain ⟨y0, y1⟩ := K.out.box.two
        obtain ⟨q0, q1, q2, q3, q4⟩ := K.out.e.five
        clear ho
        by_cases g4 : (Ent.mk k t o u n).check = 0
        · have G4 := Lib.hid g4
          rw [g4]
          clear g4
          go_wp2_with fail
          refine wp_region_N (fun j => j = w.heap.size + 1 ∨ j = w.heap.size + 1 + 1) (by kernel_rfl) ?_
          refine wpN_take (i := 0) (d := some 64) rfl rfl (by kernel_rfl) (by kernel_rfl) (by kernel_rfl) (fun _ _ _ h => h) (sure_value (v := .agg #[.slice A2 z.b.length c2, .int .i64 z.err]) (by rfl) (fun v1 h1 => by obtain ⟨y0, y1⟩ := (K.out.box.drew.only h1 (fun e => by rcases e with e | e <;> omega)).two; go_simp)) (Only.refl _ _) ?_
          simp only [Act.put, List.setIfInBounds_toArray, List.set_cons_zero, List.set_cons_succ]
          refine wpN_take (i := 1) (d := some 65) rfl rfl (by kernel_rfl) (by kernel_rfl) (by kernel_rfl) (fun _ _ _ h => h) (sure_value (v := .agg #[.string k, .int .i64 t, .int .u16 o, .string u, .int .i64 n]) (by rfl) (fun v1 h1 => by obtain ⟨y0, y1, y2, y3, y4⟩ := (K.out.e.drew.only h1 (fun e => by rcases e with e | e <;> omega)).five; go_simp)) (Only.refl _ _) ?_
          simp only [Act.put, List.setIfInBounds_toArray, List.set_cons_zero, List.set_cons_succ]
          refine wpN_store (i := 2) (g := w.heap.size + 1) (cs' := #[.slice A2 z.b.length c2, .int .i64 z.err]) (by kernel_rfl) rfl (by rfl) rfl rfl rfl rfl K.out.r2.drew (fun _ => .inl rfl) rfl (by simp [Value.oneCell']) (by kernel_rfl) (Only.refl _ _) ?_
          intro v1 v2 h1 hb1 h2 hS1
          refine wpN_store (i := 3) (g := w.heap.size + 1 + 1) (cs' := #[.string k, .int .i64 t, .int .u16 o, .string u, .int .i64 n]) (by kernel_rfl) rfl (by rfl) rfl rfl rfl rfl ((K.out.r3.drew.only h1 (fun h => h)).only h2 (fun e => by have e : w.heap.size + 1 + 1 = w.heap.size + 1 := e; omega)) (fun _ => .inr rfl) rfl (by simp [Value.oneCell']) (by kernel_rfl) hS1 ?_
          intro v3 v4 h3 hb2 h4 hS2
          refine wpN_done (by kernel_rfl) (fun v5 h5 => ?_) _
          have hS3 : Only (fun j => j = w.heap.size + 1 ∨ j = w.heap.size + 1 + 1) w7 v5 := Only.undrew (only_up _ _ _ hS2 h5)
          obtain ⟨x0, x1⟩ := (((hb1.only h3 (fun h => h)).only h4 (fun e => by have e : w.heap.size + 1 = w.heap.size + 1 + 1 := e; omega)).only h5 (fun h => h)).two
          obtain ⟨e0, e1, e2, e3, e4⟩ := (hb2.only h5 (fun h => h)).five
          have ZV := Lib.hid (rv_only2 K.out.rv SL.out hS3 (fun j hj => by rcases hj with hj | hj <;> omega))
          have ZO := Lib.hid (K.out.only.trans hS3 (fun j hj hl => by rcases hj with hj | hj <;> omega))
          clear h1 hb1 h2 hS1 h3 hb2 h4 hS2 h5 hS3 y0 y1 q0 q1 q2 q3 q4
          go_wp2
          refine bodyPost_ret (v := .tuple #[.agg #[.slice A2 z.b.length c2, .int .i64 z.err], .agg #[.string k, .int .i64 t, .int .u16 o, .string u, .int .i64 n]]) (by simp [results, Tryd.results63, go_sem, x0, x1, e0, e1, e2, e3, e4]) rfl ?_
          refine ⟨⟨A2, c2, ?_, ZV.out⟩, ZO.out⟩
          rcases HY.out with ⟨-, -, -, -, rfl⟩ | ⟨hn, -⟩
          · rfl
          · exact absurd ⟨G1.out, by omega, by omega, G4.out⟩ hn
        · have G4 := Lib.hid g4
          have g4' : ((Ent.mk k t o u n).check != 0) = true := by simpa using g4
          clear g4
          go_wp2_with (first | (refine wpList_store_whole rfl rfl 40 (.tmp 2) (.tmp 62) rfl (w.heap.size + 1) rfl #[.slice A2 z.b.length c2, .int .i64 z.err] rfl 40 _ K.out.r2 rfl (by simp [Value.oneCell']) (by kernel_rfl) ?_; intro w9 hb9 ho9 _; have Z2 := Lib.hid hb9; have Z3 := Lib.hid (K.out.r3.only ho9 (fun e => by have e : w.heap.size + 1 + 1 = w.heap.size + 1 := e; omega)); have ZV := Lib.hid (rv_only2 K.out.rv SL.out ho9 (fun k hk => by have hk : k = w.heap.size + 1 := hk; omega)); have ZO := Lib.hid (K.out.only.trans ho9 (fun j hj hl => by have hj : j = w.heap.size + 1 := hj; omega)); clear hb9 ho9) | (refine wpList_store_whole rfl rfl 64 (.tmp 3) (.tmp 63) rfl (w.heap.size + 1 + 1) rfl #[.string ⟨#[]⟩, .int .i64 0, .int .u16 0, .string ⟨#[]⟩, .int .i64 0] rfl 64 _ Z3.out rfl (by simp [Value.oneCell']) (by kernel_rfl) ?_; intro w9 hb9 ho9 _; obtain ⟨x0, x1⟩ := (Z2.out.only ho9 (fun e => by have e : w.heap.size + 1 = w.heap.size + 1 + 1 := e; omega)).two; obtain ⟨e0, e1, e2, e3, e4⟩ := hb9.five; have ZV := Lib.hid (rv_only2 ZV.out SL.out ho9 (fun k hk => by have hk : k = w.heap.size + 1 + 1 := hk; omega)); have ZO := Lib.hid (ZO.out.trans ho9 (fun j hj hl => by have hj : j = w.heap.size + 1 + 1 := hj; omega)); clear hb9 ho9))
          refine bodyPost_ret (v := .tuple #[.agg #[.slice A2 z.b.length c2, .int .i64 z.err], .agg #[.string ⟨#[]⟩, .int .i64 0, .int .u16 0, .string ⟨#[]⟩, .int .i64 0]]) (by simp [results, Tryd.results63, go_sem, x0, x1, e0, e1, e2, e3, e4]) rfl ?_
          refine ⟨⟨A2, c2, ?_, ZV.out⟩, ZO.out⟩
          rcases HY.out with ⟨q1, q2, q3, q4, -⟩ | ⟨-, rfl⟩
          · exact absurd q4 G4.out
          · rfl
  · have g1' : (z.err != 0) = true := by simp [g1]
    go_wp2_with (first | (refine wpList_store_whole rfl rfl 40 (.tmp 1) (.tmp 38) rfl w.heap.size rfl #[.slice A2 z.b.length c2, .int .i64 z.err] rfl 40 _ K.out.box rfl (by simp [Value.oneCell']) (by kernel_rfl) ?_; intro w9 hb9 ho9 _; have K := Lib.hid (K.out.putr SL.out HX.out hb9 ho9); obtain ⟨y0, y1⟩ := hb9.two; clear hb9 ho9) | (refine wpList_store_int rfl rfl (.tmp 43) (.tmp 39) rfl (w.heap.size + 1 + 1 + 1) 1 rfl (t) rfl 64 _ K.out.e _ rfl ?_; intro w9 hb9 ho9; have K := Lib.hid (K.out.pute SL.out hb9 ho9); obtain ⟨y0, y1⟩ := K.out.box.two; clear hb9 ho9) | (refine wpList_store_u16 rfl rfl (.tmp 44) (.tmp 41) rfl (w.heap.size + 1 + 1 + 1) 2 rfl (IntKind.u16.wrap o) rfl 64 _ K.out.e _ rfl ?_; intro w9 hb9 ho9; have K := Lib.hid (K.out.pute SL.out hb9 ho9); obtain ⟨y0, y1⟩ := K.out.box.two; clear hb9 ho9) | (refine wpList_store_int rfl rfl (.tmp 45) (.tmp 42) rfl (w.heap.size + 1 + 1 + 1) 4 rfl (n) rfl 64 _ K.out.e _ rfl ?_; intro w9 hb9 ho9; have K := Lib.hid (K.out.pute SL.out hb9 ho9); obtain ⟨y0, y1⟩ := K.out.box.two; obtain ⟨q0, q1, q2, q3, q4⟩ := K.out.e.five; clear hb9 ho9) | (refine wpList_store_whole rfl rfl 40 (.tmp 2) (.tmp 62) rfl (w.heap.size + 1) rfl #[.slice A2 z.b.length c2, .int .i64 z.err] rfl 40 _ K.out.r2 rfl (by simp [Value.oneCell']) (by kernel_rfl) ?_; intro w9 hb9 ho9 _; have Z2 := Lib.hid hb9; have Z3 := Lib.hid (K.out.r3.only ho9 (fun e => by have e : w.heap.size + 1 + 1 = w.heap.size + 1 := e; omega)); have ZV := Lib.hid (rv_only2 K.out.rv SL.out ho9 (fun k hk => by have hk : k = w.heap.size + 1 := hk; omega)); have ZO := Lib.hid (K.out.only.trans ho9 (fun j hj hl => by have hj : j = w.heap.size + 1 := hj; omega)); clear hb9 ho9) | (refine wpList_store_whole rfl rfl 64 (.tmp 3) (.tmp 63) rfl (w.heap.size + 1 + 1) rfl #[.string ⟨#[]⟩, .int .i64 0, .int .u16 0, .string ⟨#[]⟩, .int .i64 0] rfl 64 _ Z3.out rfl (by simp [Value.oneCell']) (by kernel_rfl) ?_; intro w9 hb9 ho9 _; obtain ⟨x0, x1⟩ := (Z2.out.only ho9 (fun e => by have e : w.heap.size + 1 = w.heap.size + 1 + 1 := e; omega)).two; obtain ⟨e0, e1, e2, e3, e4⟩ := hb9.five; have ZV := Lib.hid (rv_only2 ZV.out SL.out ho9 (fun k hk => by have hk : k = w.heap.size + 1 + 1 := hk; omega)); have ZO := Lib.hid (ZO.out.trans ho9 (fun j hj hl => by have hj : j = w.heap.size + 1 + 1 := hj; omega)); clear hb9 ho9))
    refine bodyPost_ret (v := .tuple #[.agg #[.slice A2 z.b.length c2, .int .i64 z.err], .agg #[.string ⟨#[]⟩, .int .i64 0, .int .u16 0, .string ⟨#[]⟩, .int .i64 0]]) (by simp [results, Tryd.results63, go_sem, x0, x1, e0, e1, e2, e3, e4]) rfl ?_
    refine ⟨⟨A2, c2, ?_, ZV.out⟩, ZO.out⟩
    rcases HY.out with ⟨q1, q2, q3, q4, -⟩ | ⟨-, rfl⟩
    · exact absurd q1 g1
    · rfl
theorem ref_eread (S : Nat → Prop) (v : Value) (r : Rd) (y : Ent) (z : Rd) (hr : Ent.Reads r y z) (w : World) (h : In.Rv S w v r) : Calls Tryd.prog 63 #[v] w fun e w' => EReadAns S y z e w' ∧ Only Noth w w' := by
  refine (ref_eread0 (fun k => S k ∧ k < w.heap.size) v r y z hr w (fun k hk => hk.2) (h.mono fun k hk hl => ⟨hk, hl⟩)).mono ?_
  rintro e w' ⟨⟨A, c, h1, h2⟩, h3⟩
  exact ⟨⟨A, c, h1, h2.mono fun k hk _ => hk.1⟩, h3⟩
end Go.Proofs.YtjdgmnaemopfdaaDoor
