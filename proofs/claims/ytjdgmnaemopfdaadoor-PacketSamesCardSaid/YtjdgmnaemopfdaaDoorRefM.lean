/- The reference's List: its bytes lie in new memory. -/
import Derived.Test.YtjdgmnaemopfdaaDoorRefL
import Derived.Test.YtjdgmnaemopfdaaDoorOrdC
namespace Go.Proofs.YtjdgmnaemopfdaaDoor
open Go.RowKit Go.Lib
set_option linter.unusedVariables false
set_option maxRecDepth 100000
attribute [local go_sem ↓] Go.wp_at_zero Go.wp_at_succ

/-- Bytes that a call hands back, in new memory. -/
def GivenN (w : World) (l : List UInt8) (e : Ending) (w' : World) : Prop := ∃ A c, e = .returned (.slice A l.length c) ∧ Src w' (New w) 1 A l.length (byteCells l) ∧ Only Noth w w' ∧ l.length ≤ c ∧ c ≤ 9223372036854775807
theorem GivenN.p {w w' : World} {l : List UInt8} {e : Ending} (h : GivenN w l e w') : GivenP w l e w' := by
  obtain ⟨A, c, h1, h2, h3, h4, h5⟩ := h
  exact ⟨A, c, h1, ⟨A, c, rfl, h2.mono (fun _ _ h => h), h4, h5⟩, h3⟩
set_option maxHeartbeats 1000000 in
theorem ref_list_n (A0 : Option Addr) (c : Nat) (vs : List Value) (ls : List (List UInt8)) (w : World) (hs : Src w (fun k => k < w.heap.size) 1 A0 ls.length vs) (hp : Parts w vs ls) (hc0 : ls.length ≤ c) (hc1 : c ≤ 9223372036854775807)
    (hbytes : ls.flatten.length + 2 ≤ 140737488355328) :
    Calls Tryd.prog 17 #[.slice A0 ls.length c] w (GivenN w (tList ls)) := by
  have HS := Lib.hid hs
  have HP := Lib.hid hp
  have HB := Lib.hid hbytes
  have hlen : ls.length ≤ 9223372036854775807 := by omega
  have kc := fun (w : World) (C : Array Value) (n c : Nat) => Lib.run_convert_bytes_const (P := Tryd.prog) w 23 5 C n c Tryd.underlying23 Tryd.underlying5
  clear hs hp hbytes
  obtain ⟨i0, hi, hz0, hz1, hz2⟩ := info_parts b8info
  go_enter Tryd.func17, Tryd.ntmps17
  go_wp2_with fail
  clear kc
  go_loopw [3, 4] (fun v i wr => RLaid w ls v i wr) (fun _ i _ => ls.length - (RowKit.intOf i).toNat)
  case atStart =>
    refine ⟨0, 1, Nat.zero_le _, rfl, rfl, .inr ⟨w.heap.size, rfl, by omega, by decide, Nat.le_refl _, ?_⟩, (Only.refl _ _).alloc _⟩
    exact src_marked _ w.heap.size #[.int .u8 108] (1, 2) 1 rfl 5 (heap_alloc_new w _)
  case round =>
    obtain ⟨k, n, hk, rfl, hn, hrow, hon⟩ := hrel
    obtain ⟨A, cc, rfl, hnc, hcm, _⟩ := hrow.shape
    have HN := Lib.hid hn
    have HR := Lib.hid hrow
    have HO := Lib.hid hon
    have hwz : w.heap.size ≤ wr.heap.size := hon.size
    clear hn hrow hon
    by_cases hlt : k < ls.length
    · obtain ⟨l, hl⟩ : ∃ l, ls[k]? = some l := ⟨_, List.getElem?_eq_getElem hlt⟩
      obtain ⟨v, hv, Ap, cp, rfl, hps, hp1, hp2⟩ := HP.out.2 k l hl
      obtain ⟨ad, rfl, _, hlt', hc⟩ := HS.out.2 (by omega)
      have hcell : wr.cell? (ad.add k) = some (.slice Ap l.length cp) := by
        exact (HO.out.cell (p := ad.add k) (by rw [block_add]; exact hlt') (fun h => h)).trans (hc k _ hv)
      have HPS := Lib.hid ((hps.only HO.out (fun _ _ h => h)).mono (G := fun k => k < w.heap.size) (fun _ h _ => h))
      have HL := Lib.hid hl
      have hfl : n + l.length ≤ 140737488355327 := by
        have h1 := flat_take_succ HL.out
        have h2 := flat_take_le ls (k + 1)
        have h3 := HN.out
        have h4 := HB.out
        rw [h1, List.length_append] at h2
        omega
      have hb0 : (0 : Int) ≤ k := by omega
      have hb1 : (k : Int) < ls.length := by omega
      clear hps hl hv hc
      go_wp2_with (at_builtin; refine wpList_append_own' rfl (.tmp 13) (.tmp 17) 23 rfl 5 i0 (.int .u8 0) 1 1 Tryd.underlying23 hi hz0 hz1 hz2 rfl (New w) (fun k => k < w.heap.size) _ _ _ rfl HR.out Ap l.length cp (byteCells l) rfl HPS.out (cells_one l) (by simp only [maxLen]; omega) (by omega) ?_; intro v' w2 hrow honly; have HR2 := Lib.hid hrow; have HO2 := Lib.hid honly; clear hrow honly)
      go_roundw
      case rel =>
        refine ⟨k + 1, n + l.length, by omega, by go_num, ?_, ?_, ?_⟩
        · rw [flat_take_succ HL.out, List.length_append]
          have := HN.out
          omega
        · have h := HR2.out
          rw [← cells_append] at h
          rw [flat_take_succ HL.out]
          refine Own.mono (F := Plus (New w) wr w2) h (fun j hj _ => ?_)
          rcases hj with hj | hj
          · exact hj
          · show w.heap.size ≤ j; omega
        · exact HO.out.trans HO2.out (fun j hj hl => by have : w.heap.size ≤ j := hj; omega)
      case measure => simp [RowKit.intOf]; omega
    · obtain rfl : k = ls.length := by omega
      have hfl : n + 1 ≤ 140737488355328 := by
        have h1 := flat_take_le ls ls.length
        have h3 := HN.out
        have h4 := HB.out
        omega
      go_wp2_with (at_builtin; refine wpList_append_own' rfl (.tmp 19) (.tmp 20) 23 rfl 5 i0 (.int .u8 0) 1 1 Tryd.underlying23 hi hz0 hz1 hz2 rfl (New w) (New w) _ _ _ rfl (HR.out.alloc _) _ 1 1 [.int .u8 101] rfl (srcb_new wr 5 #[.int .u8 101] 1 rfl (New w) (show w.heap.size ≤ wr.heap.size by omega)) (by intro u hu; simp at hu; subst hu; rfl) (by simp only [maxLen]; omega) (by omega) ?_; intro v' w2 hrow honly; obtain ⟨A2, c2, rfl, hc3, hc4, hs2⟩ := hrow.shape; have HS2 := Lib.hid hs2; have HO2 := Lib.hid honly; clear hrow honly hs2)
      go_ret
      have hn := HN.out
      rw [List.take_of_length_le (Nat.le_refl _)] at hn
      have hl : n + 1 = (tList ls).length := by rw [hn]; simp [tList]; omega
      have hs2 := HS2.out
      rw [List.take_of_length_le (Nat.le_refl _)] at hs2
      rw [hl] at hs2 hc3 ⊢
      refine ⟨A2, c2, rfl, ?_, ?_, hc3, by simpa [maxLen] using hc4⟩
      · have e : byteCells (108 :: ls.flatten) ++ [Value.int .u8 101] = byteCells (tList ls) := by simp [tList, byteCells]
        rw [e] at hs2
        refine hs2.mono (fun j hj hl => ?_)
        rcases hj with hj | hj
        · exact hj
        · show w.heap.size ≤ j
          have h1 : wr.heap.size + 1 ≤ j := by simpa using hj.1
          omega
      · exact (HO.out.alloc _).trans HO2.out (fun j hj hl => by have : w.heap.size ≤ j := hj; omega)
section
variable {ops : Array Oper} {o : Oper} {a : Act} {w0 : World} {Q : Exit → Act → World → Prop} {md : Region.Mode}
theorem wpN_givenn {i : Nat} {d : Option Tmp} {n : Nat} {listed : Array Bool} {w : World} {f : FuncId} {args : Array Value} {L : List UInt8} (hc : ∀ w1, Only Noth w w1 → Calls Tryd.prog f args w1 (GivenN w1 L)) (hS : Only Noth w0 w)
    (hr : Region.ready md ops listed = [i]) (hi : ops[i]? = some o) (hd : o.dst = d) (hw : Region.wanted o (yielded ops a.tmps) = true) (he : ∀ w1, (execOp a.eval o).run Tryd.prog w1 = .ok (.enter f args) w1)
    (h : ∀ A c w2, Src w2 (New w) 1 A L.length (byteCells L) → L.length ≤ c ∧ c ≤ 9223372036854775807 → Only Noth w w2 → wpN Tryd.prog md ops Q Noth w2 n (listed.setIfInBounds i true) (a.put d (.slice A L.length c)) w2) : wpN Tryd.prog md ops Q Noth w0 (n + 1) listed a w := by
  refine wpN_call (T := fun v w1 w2 => ∃ A c, v = .slice A L.length c ∧ Src w2 (New w1) 1 A L.length (byteCells L) ∧ (L.length ≤ c ∧ c ≤ 9223372036854775807) ∧ Only Noth w1 w2) (fun w1 h1 => (hc w1 h1).mono ?_) hr hi hd hw he ?_
  · rintro e w' ⟨A, c, rfl, hp, ho, h4, h5⟩
    exact ⟨_, rfl, ⟨A, c, rfl, hp, ⟨h4, h5⟩, ho⟩, only_up _ _ _ (only_up _ _ _ hS h1) ho⟩
  · rintro v w1 w2 h1 ⟨A, c, rfl, hp, hb, ho⟩ h2
    refine wpN_rebase h2 (h A c w2 (hp.mono (fun k hk _ => ?_)) hb (h1.tr ho))
    have := h1.size
    unfold New at hk ⊢
    omega
end
end Go.Proofs.YtjdgmnaemopfdaaDoor
