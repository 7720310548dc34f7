/- The document's reader: Text, More. -/
import Derived.Test.YtemeglofblnnmaaDoorRefRZ
import Derived.Test.YtemeglofblnnmaaDoorOrdBZ
namespace Go.Proofs.YtemeglofblnnmaaDoor
open Go.RowKit Go.Lib
set_option linter.unusedVariables false
set_option maxRecDepth 100000
attribute [local go_sem ↓] Go.wp_at_zero Go.wp_at_succ
theorem heap_drew (w : World) : w.drew.heap = w.heap := rfl
section
variable (v : Value) (r : Rd) (w : World) (h : Rv w v r)
include h
set_option maxHeartbeats 4000000 in
theorem ref_rtext (m : Int) : Calls Tryd.prog 33 #[v, .int .i64 m] w fun e w' => ∃ x, e = .returned (.tuple #[x, .string ⟨(r.text m).2.toArray⟩]) ∧ Rv w' x (r.text m).1 ∧ Only Noth w w' := by
  obtain ⟨A, c, rfl, hp, hs⟩ := h
  obtain ⟨_, _, e0, hsrc, hc1, hc2⟩ := hp
  injection e0 with e1 e2 e3
  subst e1 e3
  have SR := Lib.hid hsrc
  have SN := Lib.hid hs
  have HB := Lib.hid (Hld.at' (w.alloc (.cells #[.slice A r.b.length c, .int .i64 r.err] 64)) 64 #[.slice none 0 0, .int .i64 0] (w.heap.size + 1) (by simp))
  clear hsrc hs
  have hl : (r.b.length : Int) ≤ 9223372036854775807 := by omega
  by_cases he : r.err = 0
  · have e1 : (r.err != 0) = false := by simpa using he
    obtain ⟨b, err⟩ := r
    simp only at *
    subst he
    cases b with
    | nil =>
      have HX := Lib.hid (show (⟨[], 0⟩ : Rd).text m = (Rd.stop 3, []) by simp [Rd.text])
      simp only [List.length_nil] at *
      rw [HX.out]
      go_enter Tryd.func33, Tryd.ntmps33
      go_wp2_with fail
      refine (ref_stop (3) _).mono ?_
      rintro e w1 ⟨rfl, ho⟩
      have HB1 := Lib.hid (HB.out.only ho (fun h => h))
      have HO := Lib.hid ho
      clear ho
      go_wp2_with (refine wpList_store_whole rfl rfl 64 (.tmp 4) (.tmp 21) rfl (w.heap.size + 1) rfl #[.slice none 0 0, .int .i64 (3)] rfl 64 _ HB1.out rfl (by simp [Value.oneCell']) (by kernel_rfl) ?_; intro w2 hb2 ho2 _; obtain ⟨y0, y1⟩ := hb2.two; have HO2 := Lib.hid ho2; clear ho2 hb2)
      refine bodyPost_ret (v := .tuple #[.agg #[.slice none 0 0, .int .i64 3], .string ⟨#[]⟩]) (by simp [results, Tryd.results33, go_sem, y0, y1]) rfl ⟨_, rfl, ?_, ?_⟩
      · exact Rv.stop _ _
      · exact (((((Only.refl _ _).alloc _).alloc _).tr HO.out)).trans HO2.out (fun j hj hl => absurd hl (by have : j = w.heap.size + 1 := hj; omega))
    | cons b t =>
      simp only [List.length_cons] at *
      clear hl
      have S2 := Lib.hid ((SR.out.alloc (.cells #[.slice A (t.length + 1) c, .int .i64 0] 64)).alloc (.cells #[.slice none 0 0, .int .i64 0] 64))
      obtain ⟨ad, rfl, _, _, hc⟩ := S2.out.2 (by simp)
      have d1 : ((w.alloc (.cells #[.slice (some ad) (t.length + 1) c, .int .i64 0] 64)).alloc (.cells #[.slice none 0 0, .int .i64 0] 64)).cell? ad = some (.int .u8 b.toNat) := by
        have d0 := hc 0 (.int .u8 b.toNat) rfl
        have e : ad.add 0 = ad := by unfold Addr.add; split <;> simp_all
        rw [e] at d0
        exact d0
      clear hc
      have hb0 : (0 : Int) ≤ b.toNat := by omega
      by_cases hd : b.toNat < 48 ∨ 57 < b.toNat
      · have HX := Lib.hid (show (⟨b :: t, 0⟩ : Rd).text m = (Rd.stop 4, []) by simp [Rd.text, hd])
        rw [HX.out]
        by_cases hd1 : b.toNat < 48
        · have e2 : decide ((b.toNat : Int) < 48) = true := by simp; omega
          clear hd
          go_enter Tryd.func33, Tryd.ntmps33
          go_wp2_with fail
          refine (ref_stop (4) _).mono ?_
          rintro e w1 ⟨rfl, ho⟩
          have HB1 := Lib.hid (HB.out.only ho (fun h => h))
          have HO := Lib.hid ho
          clear ho
          go_wp2_with (refine wpList_store_whole rfl rfl 64 (.tmp 4) (.tmp 35) rfl (w.heap.size + 1) rfl #[.slice none 0 0, .int .i64 (4)] rfl 64 _ HB1.out rfl (by simp [Value.oneCell']) (by kernel_rfl) ?_; intro w2 hb2 ho2 _; obtain ⟨y0, y1⟩ := hb2.two; have HO2 := Lib.hid ho2; clear ho2 hb2)
          refine bodyPost_ret (v := .tuple #[.agg #[.slice none 0 0, .int .i64 4], .string ⟨#[]⟩]) (by simp [results, Tryd.results33, go_sem, y0, y1]) rfl ⟨_, rfl, ?_, ?_⟩
          · exact Rv.stop _ _
          · exact (((((Only.refl _ _).alloc _).alloc _).tr HO.out)).trans HO2.out (fun j hj hl => absurd hl (by have : j = w.heap.size + 1 := hj; omega))
        · have e2 : decide ((b.toNat : Int) < 48) = false := by simp; omega
          have e3 : decide ((57 : Int) < b.toNat) = true := by simp; omega
          clear hd
          go_enter Tryd.func33, Tryd.ntmps33
          go_wp2_with fail
          refine (ref_stop (4) _).mono ?_
          rintro e w1 ⟨rfl, ho⟩
          have HB1 := Lib.hid (HB.out.only ho (fun h => h))
          have HO := Lib.hid ho
          clear ho
          go_wp2_with (refine wpList_store_whole rfl rfl 64 (.tmp 4) (.tmp 35) rfl (w.heap.size + 1) rfl #[.slice none 0 0, .int .i64 (4)] rfl 64 _ HB1.out rfl (by simp [Value.oneCell']) (by kernel_rfl) ?_; intro w2 hb2 ho2 _; obtain ⟨y0, y1⟩ := hb2.two; have HO2 := Lib.hid ho2; clear ho2 hb2)
          refine bodyPost_ret (v := .tuple #[.agg #[.slice none 0 0, .int .i64 4], .string ⟨#[]⟩]) (by simp [results, Tryd.results33, go_sem, y0, y1]) rfl ⟨_, rfl, ?_, ?_⟩
          · exact Rv.stop _ _
          · exact (((((Only.refl _ _).alloc _).alloc _).tr HO.out)).trans HO2.out (fun j hj hl => absurd hl (by have : j = w.heap.size + 1 := hj; omega))
      · have e2 : decide ((b.toNat : Int) < 48) = false := by simp; omega
        have e3 : decide ((57 : Int) < b.toNat) = false := by simp; omega
        have hunt := ref_until (some ad) (t.length + 1) c (b :: t) rfl 58 10 (by omega) ((w.alloc (.cells #[.slice (some ad) (t.length + 1) c, .int .i64 0] 64)).alloc (.cells #[.slice none 0 0, .int .i64 0] 64)) _ S2.out hc1 (by omega)
        cases ha : Rd.at? (b :: t) 58 10 with
        | none =>
          have hu : untilR (b :: t) 58 10 = ([], if 10 < (b :: t).length then 4 else 3) := by unfold untilR; rw [ha]
          rw [hu] at hunt
          obtain ⟨E, hE⟩ : ∃ E : Int, (if 10 < (b :: t).length then 4 else 3) = E := ⟨_, rfl⟩
          have HX := Lib.hid (show (⟨b :: t, 0⟩ : Rd).text m = (Rd.stop E, []) by
            have hE2 : (if 10 < t.length + 1 then 4 else 3) = E := hE
            simp only [Rd.text, Rd.till, ha, List.length_cons, hE2]
            simp [hd])
          rw [hE] at hunt
          have e4 : (E != 0) = true := by rw [← hE]; split <;> decide
          have HU := Lib.hid hunt
          rw [HX.out]
          clear hE ha hu hunt hd
          go_enter Tryd.func33, Tryd.ntmps33
          go_wp2_with fail
          refine HU.out.mono ?_
          rintro e w' ⟨rfl, rfl⟩
          go_wp2_with fail
          refine (ref_stop (E) _).mono ?_
          rintro e w1 ⟨rfl, ho⟩
          have HB1 := Lib.hid (HB.out.only ho (fun h => h))
          have HO := Lib.hid ho
          clear ho
          go_wp2_with (refine wpList_store_whole rfl rfl 64 (.tmp 4) (.tmp 45) rfl (w.heap.size + 1) rfl #[.slice none 0 0, .int .i64 (E)] rfl 64 _ HB1.out rfl (by simp [Value.oneCell']) (by kernel_rfl) ?_; intro w2 hb2 ho2 _; obtain ⟨y0, y1⟩ := hb2.two; have HO2 := Lib.hid ho2; clear ho2 hb2)
          refine bodyPost_ret (v := .tuple #[.agg #[.slice none 0 0, .int .i64 E], .string ⟨#[]⟩]) (by simp [results, Tryd.results33, go_sem, y0, y1]) rfl ⟨_, rfl, ?_, ?_⟩
          · exact Rv.stop _ _
          · exact (((((Only.refl _ _).alloc _).alloc _).tr HO.out)).trans HO2.out (fun j hj hl => absurd hl (by have : j = w.heap.size + 1 := hj; omega))
        | some i =>
          have hu : untilR (b :: t) 58 10 = ((b :: t).take i, 0) := by unfold untilR; rw [ha]
          rw [hu] at hunt
          obtain ⟨hi10, hit, hic, -, -⟩ := Rd.at_some ha
          obtain ⟨S, hS⟩ : ∃ S, ByteArray.mk ((b :: t).take i).toArray = S := ⟨_, rfl⟩
          simp only [hS] at hunt
          have hSl : S.data.toList = (b :: t).take i := by rw [← hS]
          have hSs : S.size = i := by rw [← hS, mk_size, List.length_take]; omega
          have hnum := ref_number S (by omega) ((w.alloc (.cells #[.slice (some ad) (t.length + 1) c, .int .i64 0] 64)).alloc (.cells #[.slice none 0 0, .int .i64 0] 64))
          rw [hSl] at hnum
          have HU := Lib.hid hunt
          have HN := Lib.hid hnum
          have hlt : i < t.length + 1 := by simpa using hit
          obtain ⟨A2, hsl2, hs4⟩ := slice_from (l := b :: t) c (i + 1) SR.out (by simp; omega) hc1
          simp only [List.length_cons] at hsl2
          simp only [List.drop_succ_cons] at hs4
          rw [show ((i + 1 : Nat) : Int) = (i : Int) + 1 by omega] at hsl2
          have hsz : (i : Int) ≤ 20 := by omega
          obtain ⟨X, hX⟩ : ∃ X, t.drop i = X := ⟨_, rfl⟩
          have hXl : t.length + 1 - (i + 1) = X.length := by rw [← hX, List.length_drop]; omega
          rw [hXl] at hsl2
          rw [hX] at hs4
          have S4 := Lib.hid hs4
          have hXc : X.length ≤ c - (i + 1) := by omega
          have hXb : X.length ≤ 9223372036854775807 := by omega
          clear hS hSl hu hunt hnum hs4 hXl hit
          cases hnm : num ((b :: t).take i) with
          | none =>
            have HX := Lib.hid (show (⟨b :: t, 0⟩ : Rd).text m = (Rd.stop 4, []) by simp only [Rd.text, Rd.till, ha, hnm]; simp [hd])
            have NM := Lib.hid hnm
            rw [HX.out]
            clear ha hnm hd hic
            go_enter Tryd.func33, Tryd.ntmps33
            go_wp2_with fail
            refine HU.out.mono ?_
            rintro e w' ⟨rfl, rfl⟩
            go_wp2_with fail
            refine HN.out.mono ?_
            rintro e w' ⟨x, rfl, _, rfl⟩
            rw [NM.out]
            simp only [Option.isSome_none]
            go_wp2_with fail
            refine (ref_stop (4) _).mono ?_
            rintro e w1 ⟨rfl, ho⟩
            have HB1 := Lib.hid (HB.out.only ho (fun h => h))
            have HO := Lib.hid ho
            clear ho
            go_wp2_with (refine wpList_store_whole rfl rfl 64 (.tmp 4) (.tmp 64) rfl (w.heap.size + 1) rfl #[.slice none 0 0, .int .i64 (4)] rfl 64 _ HB1.out rfl (by simp [Value.oneCell']) (by kernel_rfl) ?_; intro w2 hb2 ho2 _; obtain ⟨y0, y1⟩ := hb2.two; have HO2 := Lib.hid ho2; clear ho2 hb2)
            refine bodyPost_ret (v := .tuple #[.agg #[.slice none 0 0, .int .i64 4], .string ⟨#[]⟩]) (by simp [results, Tryd.results33, go_sem, y0, y1]) rfl ⟨_, rfl, ?_, ?_⟩
            · exact Rv.stop _ _
            · exact (((((Only.refl _ _).alloc _).alloc _).tr HO.out)).trans HO2.out (fun j hj hl => absurd hl (by have : j = w.heap.size + 1 := hj; omega))
          | some n =>
            have hi0 : i ≠ 0 := by
              rintro rfl
              simp at hic
              subst hic
              exact hd (.inr (by decide))
            have hn0 : 0 ≤ n := by
              obtain ⟨i', rfl⟩ : ∃ j, i = j + 1 := ⟨i - 1, by omega⟩
              rw [List.take_succ_cons] at hnm
              exact num_nonneg hnm (by omega)
            obtain ⟨k, rfl⟩ := Int.eq_ofNat_of_zero_le hn0
            have HT := Lib.hid (show (⟨b :: t, 0⟩ : Rd).text m = Rd.rest ⟨X, 0⟩ k m by simp only [Rd.text, Rd.till, ha, hnm, List.drop_succ_cons, hX]; simp [hd])
            have NM := Lib.hid hnm
            have HXX := Lib.hid hX
            rw [HT.out]
            clear ha hnm hd hic hX
            by_cases g1 : (1000000000 : Int) < k
            · rw [show Rd.rest ⟨X, 0⟩ k m = (Rd.stop 4, []) by unfold Rd.rest; rw [if_pos g1]]
              have e4 : decide ((1000000000 : Int) < k) = true := by simpa using g1
              go_enter Tryd.func33, Tryd.ntmps33
              go_wp2_with fail
              refine HU.out.mono ?_
              rintro e w' ⟨rfl, rfl⟩
              go_wp2_with fail
              refine HN.out.mono ?_
              rintro e w' ⟨x, rfl, hxn, rfl⟩
              obtain rfl := hxn k NM.out
              clear hxn
              rw [NM.out]
              simp only [Option.isSome_some]
              go_wp2_with fail
              refine (ref_stop (4) _).mono ?_
              rintro e w1 ⟨rfl, ho⟩
              have HB1 := Lib.hid (HB.out.only ho (fun h => h))
              have HO := Lib.hid ho
              clear ho
              go_wp2_with (refine wpList_store_whole rfl rfl 64 (.tmp 4) (.tmp 64) rfl (w.heap.size + 1) rfl #[.slice none 0 0, .int .i64 (4)] rfl 64 _ HB1.out rfl (by simp [Value.oneCell']) (by kernel_rfl) ?_; intro w2 hb2 ho2 _; obtain ⟨y0, y1⟩ := hb2.two; have HO2 := Lib.hid ho2; clear ho2 hb2)
              refine bodyPost_ret (v := .tuple #[.agg #[.slice none 0 0, .int .i64 4], .string ⟨#[]⟩]) (by simp [results, Tryd.results33, go_sem, y0, y1]) rfl ⟨_, rfl, ?_, ?_⟩
              · exact Rv.stop _ _
              · exact (((((Only.refl _ _).alloc _).alloc _).tr HO.out)).trans HO2.out (fun j hj hl => absurd hl (by have : j = w.heap.size + 1 := hj; omega))
            · by_cases g2 : m < (k : Int)
              · rw [show Rd.rest ⟨X, 0⟩ k m = (Rd.stop 5, []) by unfold Rd.rest; rw [if_neg g1, if_pos g2]]
                have e4 : decide ((1000000000 : Int) < k) = false := by simpa using g1
                have e5 : decide (m < (k : Int)) = true := by simpa using g2
                go_enter Tryd.func33, Tryd.ntmps33
                go_wp2_with fail
                refine HU.out.mono ?_
                rintro e w' ⟨rfl, rfl⟩
                go_wp2_with fail
                refine HN.out.mono ?_
                rintro e w' ⟨x, rfl, hxn, rfl⟩
                obtain rfl := hxn k NM.out
                clear hxn
                rw [NM.out]
                simp only [Option.isSome_some]
                go_wp2_with fail
                refine (ref_stop (5) _).mono ?_
                rintro e w1 ⟨rfl, ho⟩
                have HB1 := Lib.hid (HB.out.only ho (fun h => h))
                have HO := Lib.hid ho
                clear ho
                go_wp2_with (refine wpList_store_whole rfl rfl 64 (.tmp 4) (.tmp 69) rfl (w.heap.size + 1) rfl #[.slice none 0 0, .int .i64 (5)] rfl 64 _ HB1.out rfl (by simp [Value.oneCell']) (by kernel_rfl) ?_; intro w2 hb2 ho2 _; obtain ⟨y0, y1⟩ := hb2.two; have HO2 := Lib.hid ho2; clear ho2 hb2)
                refine bodyPost_ret (v := .tuple #[.agg #[.slice none 0 0, .int .i64 5], .string ⟨#[]⟩]) (by simp [results, Tryd.results33, go_sem, y0, y1]) rfl ⟨_, rfl, ?_, ?_⟩
                · exact Rv.stop _ _
                · exact (((((Only.refl _ _).alloc _).alloc _).tr HO.out)).trans HO2.out (fun j hj hl => absurd hl (by have : j = w.heap.size + 1 := hj; omega))
              · by_cases g3 : X.length < k
                · have g3' : (X.length : Int) < k := by omega
                  rw [show Rd.rest ⟨X, 0⟩ k m = (Rd.stop 3, []) by unfold Rd.rest; rw [if_neg g1, if_neg g2, if_pos g3']]
                  have e4 : decide ((1000000000 : Int) < k) = false := by simpa using g1
                  have e5 : decide (m < (k : Int)) = false := by simpa using g2
                  have e6 : decide (X.length < k) = true := by simpa using g3
                  go_enter Tryd.func33, Tryd.ntmps33
                  go_wp2_with fail
                  refine HU.out.mono ?_
                  rintro e w' ⟨rfl, rfl⟩
                  go_wp2_with fail
                  refine HN.out.mono ?_
                  rintro e w' ⟨x, rfl, hxn, rfl⟩
                  obtain rfl := hxn k NM.out
                  clear hxn
                  rw [NM.out]
                  simp only [Option.isSome_some]
                  go_wp2_with fail
                  refine (ref_stop (3) _).mono ?_
                  rintro e w1 ⟨rfl, ho⟩
                  have HB1 := Lib.hid (HB.out.only ho (fun h => h))
                  have HO := Lib.hid ho
                  clear ho
                  go_wp2_with (refine wpList_store_whole rfl rfl 64 (.tmp 4) (.tmp 75) rfl (w.heap.size + 1) rfl #[.slice none 0 0, .int .i64 (3)] rfl 64 _ HB1.out rfl (by simp [Value.oneCell']) (by kernel_rfl) ?_; intro w2 hb2 ho2 _; obtain ⟨y0, y1⟩ := hb2.two; have HO2 := Lib.hid ho2; clear ho2 hb2)
                  refine bodyPost_ret (v := .tuple #[.agg #[.slice none 0 0, .int .i64 3], .string ⟨#[]⟩]) (by simp [results, Tryd.results33, go_sem, y0, y1]) rfl ⟨_, rfl, ?_, ?_⟩
                  · exact Rv.stop _ _
                  · exact (((((Only.refl _ _).alloc _).alloc _).tr HO.out)).trans HO2.out (fun j hj hl => absurd hl (by have : j = w.heap.size + 1 := hj; omega))
                · have g3' : ¬ (X.length : Int) < k := by omega
                  have HR := Lib.hid (show Rd.rest ⟨X, 0⟩ k m = (⟨X.drop k, 0⟩, X.take k) by unfold Rd.rest; rw [if_neg g1, if_neg g2, if_neg g3']; rfl)
                  rw [HR.out]
                  have e4 : decide ((1000000000 : Int) < k) = false := by simpa using g1
                  have e5 : decide (m < (k : Int)) = false := by simpa using g2
                  have e6 : decide (X.length < k) = false := by simpa using g3
                  obtain ⟨A5, hsl5, hs5⟩ := slice_from (c - (i + 1)) k S4.out (by omega) hXc
                  obtain ⟨A6, hsl6, hs6⟩ := slice_to (c - (i + 1)) k S4.out (by omega) hXc
                  have ht6 : (X.take k).length = k := by rw [List.length_take]; omega
                  have hd5 : (X.drop k).length = X.length - k := List.length_drop
                  rw [ht6] at hs6
                  rw [hd5] at hs5
                  have S5 := Lib.hid hs5
                  have S6 := Lib.hid hs6
                  have H6 := Lib.hid ht6
                  have H5 := Lib.hid hd5
                  clear hs5 hs6 ht6 hd5 g1 g2 g3 g3'
                  go_enter Tryd.func33, Tryd.ntmps33
                  go_wp2_with fail
                  refine HU.out.mono ?_
                  rintro e w' ⟨rfl, rfl⟩
                  go_wp2_with fail
                  refine HN.out.mono ?_
                  rintro e w' ⟨x, rfl, hxn, rfl⟩
                  obtain rfl := hxn k NM.out
                  clear hxn
                  rw [NM.out]
                  simp only [Option.isSome_some]
                  go_wp2_with fail
                  obtain ⟨W, hW⟩ : ∃ W, W = ((w.alloc (.cells #[.slice (some ad) (t.length + 1) c, .int .i64 0] 64)).alloc (.cells #[.slice none 0 0, .int .i64 0] 64)) := ⟨_, rfl⟩
                  rw [← hW]
                  have HB2 := Lib.hid (show Hld W (w.heap.size + 1) 64 #[.slice none 0 0, .int .i64 0] by rw [hW]; exact HB.out)
                  have HON := Lib.hid (show Only Noth w W by rw [hW]; exact (((Only.refl _ _).alloc _).alloc _))
                  clear hW
                  refine wp_region_N (At (w.heap.size + 1)) (by kernel_rfl) ?_
                  refine wpN_take (i := 0) (d := some 76) rfl rfl (by kernel_rfl) (by kernel_rfl) (by kernel_rfl) (fun _ _ _ h => h) (sure_value (v := .slice A2 X.length (c - (i + 1))) (by rfl) (fun _ _ => rfl)) (Only.refl _ _) ?_
                  simp only [Act.put, List.setIfInBounds_toArray, List.set_cons_zero, List.set_cons_succ]
                  refine wpN_take (i := 1) (d := some 77) rfl rfl (by kernel_rfl) (by kernel_rfl) (by kernel_rfl) (fun _ _ _ h => h) (sure_value (v := .int .i64 k) (by rfl) (fun _ _ => rfl)) (Only.refl _ _) ?_
                  simp only [Act.put, List.setIfInBounds_toArray, List.set_cons_zero, List.set_cons_succ]
                  refine wpN_take (i := 2) (d := some 78) rfl rfl (by kernel_rfl) (by kernel_rfl) (by kernel_rfl) (fun _ _ _ h => h) (sure_value (v := .slice A5 (X.length - k) (c - (i + 1) - k)) (by rfl) (fun _ _ => by go_simp)) (Only.refl _ _) ?_
                  simp only [Act.put, List.setIfInBounds_toArray, List.set_cons_zero, List.set_cons_succ]
                  refine wpN_take (i := 3) (d := some 79) rfl rfl (by kernel_rfl) (by kernel_rfl) (by kernel_rfl) (fun _ _ _ h => h) (sure_value (v := .agg #[.slice A5 (X.length - k) (c - (i + 1) - k), .int .i64 0]) (by rfl) (fun _ _ => by go_simp)) (Only.refl _ _) ?_
                  simp only [Act.put, List.setIfInBounds_toArray, List.set_cons_zero, List.set_cons_succ]
                  refine wpN_take (i := 4) (d := some 80) rfl rfl (by kernel_rfl) (by kernel_rfl) (by kernel_rfl) (fun _ _ _ h => h) (sure_value (v := .slice A2 X.length (c - (i + 1))) (by rfl) (fun _ _ => rfl)) (Only.refl _ _) ?_
                  simp only [Act.put, List.setIfInBounds_toArray, List.set_cons_zero, List.set_cons_succ]
                  refine wpN_take (i := 5) (d := some 81) rfl rfl (by kernel_rfl) (by kernel_rfl) (by kernel_rfl) (fun _ _ _ h => h) (sure_value (v := .int .i64 k) (by rfl) (fun _ _ => rfl)) (Only.refl _ _) ?_
                  simp only [Act.put, List.setIfInBounds_toArray, List.set_cons_zero, List.set_cons_succ]
                  refine wpN_take (i := 6) (d := some 82) rfl rfl (by kernel_rfl) (by kernel_rfl) (by kernel_rfl) (fun _ _ _ h => h) (sure_value (v := .slice A6 k (c - (i + 1))) (by rfl) (fun _ _ => by go_simp)) (Only.refl _ _) ?_
                  simp only [Act.put, List.setIfInBounds_toArray, List.set_cons_zero, List.set_cons_succ]
                  refine wpN_take (i := 7) (d := some 83) rfl rfl (by kernel_rfl) (by kernel_rfl) (by kernel_rfl) (fun _ _ _ h => h) (sure_convs (l := X.take k) H6.out (((S6.out.only HON.out (fun _ h => fun h => h)).drew)) (fun j hj e => by have : j = w.heap.size + 1 := e; omega) (by rfl) rfl rfl) (Only.refl _ _) ?_
                  simp only [Act.put, List.setIfInBounds_toArray, List.set_cons_zero, List.set_cons_succ]
                  refine wpN_store (i := 8) (g := w.heap.size + 1) (cs' := #[.slice A5 (X.length - k) (c - (i + 1) - k), .int .i64 0]) (by kernel_rfl) rfl (by rfl) rfl rfl rfl rfl HB2.out.drew (fun _ => rfl) rfl (by simp [Value.oneCell']) (by kernel_rfl) (Only.refl _ _) ?_
                  intro W3 W4 ho3 P2 ho4 hS4
                  refine wpN_take (i := 9) (d := some 5) rfl rfl (by kernel_rfl) (by kernel_rfl) (by kernel_rfl) (fun _ _ _ h => h) (sure_value (v := .string ⟨(X.take k).toArray⟩) (by rfl) (fun _ _ => rfl)) hS4 ?_
                  simp only [Act.put, List.setIfInBounds_toArray, List.set_cons_zero, List.set_cons_succ]
                  refine wpN_done (by kernel_rfl) (fun W5 ho5 => ?_) _
                  obtain ⟨y0, y1⟩ := (P2.only ho5 (fun h => h)).two
                  have HS := Lib.hid (only_up _ _ _ hS4 ho5)
                  clear P2 ho3 ho4 ho5 hS4
                  go_wp2
                  refine bodyPost_ret (v := .tuple #[.agg #[.slice A5 (X.length - k) (c - (i + 1) - k), .int .i64 0], .string ⟨(X.take k).toArray⟩]) (by simp [results, Tryd.results33, go_sem, y0, y1]) rfl ⟨_, rfl, ?_, ?_⟩
                  · rw [← H5.out]
                    refine ⟨A5, c - (i + 1) - k, rfl, ⟨A5, c - (i + 1) - k, rfl, ?_, by simp only; rw [H5.out]; omega, by omega⟩, Rd.sane_mk _⟩
                    have h5 := S5.out
                    rw [← H5.out] at h5
                    exact ((h5.only HON.out (fun _ h => fun h => h)).only HS.out.undrew (fun j hj e => by have : j = w.heap.size + 1 := e; omega)).mono (fun j hj hl => by have := HON.out.size; have := HS.out.size; simp only [heap_drew] at this; omega)
                  · exact HON.out.trans HS.out.undrew (fun j hj hl => by have : j = w.heap.size + 1 := hj; omega)
  · have e1 : (r.err != 0) = true := by simpa using he
    have HX := Lib.hid (show r.text m = (r, []) from Rd.stopped_text he m)
    clear he
    rw [HX.out]
    go_enter Tryd.func33, Tryd.ntmps33
    go_wp2
    refine bodyPost_ret (v := .tuple #[.agg #[.slice A r.b.length c, .int .i64 r.err], .string ⟨#[]⟩]) (by simp [results, Tryd.results33, go_sem]) rfl ⟨_, rfl, ?_, ((Only.refl _ _).alloc _).alloc _⟩
    exact Rv.noth ⟨A, c, rfl, ⟨A, c, rfl, SR.out, hc1, hc2⟩, SN.out⟩ (((Only.refl _ _).alloc _).alloc _)
end
end Go.Proofs.YtemeglofblnnmaaDoor
