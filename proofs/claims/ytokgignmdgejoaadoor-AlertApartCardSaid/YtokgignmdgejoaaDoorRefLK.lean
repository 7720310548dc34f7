/- The document's bytes of a number, a text, a list. -/
import Derived.Test.YtokgignmdgejoaaDoorToldY
import Derived.Test.YtokgignmdgejoaaDoorCvbK
import Derived.Test.YtokgignmdgejoaaDoorAppY
import Derived.Lib.SlBytesConst
namespace Go.Proofs.YtokgignmdgejoaaDoor
open Go.RowKit Go.Lib
set_option linter.unusedVariables false
set_option maxRecDepth 100000
attribute [local go_sem ↓] Go.wp_at_zero Go.wp_at_succ

theorem src_marked (W : World) (g : Nat) (cs : Array Value) (fr : Nat × Nat) (n : Nat) (hn : cs.size = n) (t : TypeId) (hg : W.heap[g]? = some (.cells cs t fr)) : Src W (fun k => k = g) 1 (some ⟨g, 0, none⟩) n cs.toList := by
  refine ⟨by simp [hn], fun _ => ⟨_, rfl, rfl, (Array.getElem?_eq_some_iff.1 hg).1, fun j u hu => ?_⟩⟩
  rw [add_plain', Nat.zero_add, cell_of_row W g j cs t fr hg]
  simpa using hu
theorem ref_told_v (n : Int) (h0 : -9223372036854775808 ≤ n) (h1 : n ≤ 9223372036854775807) (K : ByteArray) (hK : (ByteArray.mk (itoa n).toArray) = K) (w : World) :
    Calls Tryd.prog 54 #[.int .i64 n] w fun e w' => e = .returned (.string K) ∧ w = w' := by subst hK; exact ref_told n h0 h1 w
theorem mk_size (l : List UInt8) : (ByteArray.mk l.toArray).size = l.length := by show l.toArray.size = _; simp
theorem mk_list (l : List UInt8) : (ByteArray.mk l.toArray).data.toList = l := by simp
theorem ref_text (s : ByteArray) (hs : s.size ≤ 140737488355300) (w : World) :
    Calls Tryd.prog 43 #[.string s] w (GivenP w (tText s.data.toList)) := by
  have el : s.data.toList.length = s.size := rfl
  obtain ⟨K, hK⟩ : ∃ K, (ByteArray.mk (itoa (s.size : Int)).toArray) = K := ⟨_, rfl⟩
  have hks : K.size ≤ 20 := by rw [← hK, mk_size]; exact itoa_len20 _ (by omega) (by omega)
  have HK := Lib.hid hK
  clear hK
  obtain ⟨X, hX⟩ : ∃ X, K ++ (ByteArray.mk #[58]) ++ s = X := ⟨_, rfl⟩
  have hXl : X.data.toList = tText s.data.toList := by rw [← hX, ba_append_list, ba_append_list, ← HK.out]; simp [tText]
  have hXs : X.size ≤ 140737488355400 := by
    have : X.data.toList.length = X.size := rfl
    rw [← this, ← hX, ba_append_list, ba_append_list, List.length_append, List.length_append]
    have e1 : K.data.toList.length = K.size := rfl
    have e2 : (ByteArray.mk #[58]).data.toList.length = 1 := rfl
    omega
  obtain ⟨A, c, W, hcv, hp, ho⟩ := conv_bytes X (by omega) w
  have HP := Lib.hid hp
  have HO := Lib.hid ho
  have XL := Lib.hid hXl
  have HXX := Lib.hid hX
  have hs1 : K.size + 1 ≤ 9223372036854775807 := by omega
  have hs2 : K.size + 1 + s.size ≤ 9223372036854775807 := by omega
  have hs3 : (s.size : Int) ≤ 9223372036854775807 := by omega
  clear hp ho hXl hX el
  go_enter Tryd.func43, Tryd.ntmps43
  go_wp2_with fail
  refine (ref_told_v _ (by omega) hs3 K HK.out _).mono ?_
  rintro e w' ⟨rfl, rfl⟩
  rw [← HXX.out] at hcv
  go_wp2
  go_ret
  have hl : K.size + 1 + s.size = (tText s.data.toList).length := by
    rw [← XL.out, ← HXX.out, ba_append_list, ba_append_list, List.length_append, List.length_append]
    rfl
  have hx : X.data.toList = tText s.data.toList := XL.out
  rw [hl]
  rw [hx] at HP
  exact ⟨A, c, rfl, HP.out, HO.out⟩

/-- At the head of List's loop: what has been laid. -/
def RLaid (w : World) (ls : List (List UInt8)) (v i : Value) (wr : World) : Prop :=
  ∃ (k n : Nat), k ≤ ls.length ∧ i = .int .i64 k ∧ n = 1 + ((ls.take k).flatten).length ∧ Own wr (New w) 5 1 v n (byteCells (108 :: (ls.take k).flatten)) ∧ Only Noth w wr
set_option maxHeartbeats 1000000 in
theorem ref_list (A0 : Option Addr) (c : Nat) (vs : List Value) (ls : List (List UInt8)) (w : World) (hs : Src w (fun k => k < w.heap.size) 1 A0 ls.length vs) (hp : Parts w vs ls) (hc0 : ls.length ≤ c) (hc1 : c ≤ 9223372036854775807)
    (hbytes : ls.flatten.length + 2 ≤ 140737488355328) :
    Calls Tryd.prog 44 #[.slice A0 ls.length c] w (GivenP w (tList ls)) := by
  have HS := Lib.hid hs
  have HP := Lib.hid hp
  have HB := Lib.hid hbytes
  have hlen : ls.length ≤ 9223372036854775807 := by omega
  have kc := fun (w : World) (C : Array Value) (n c : Nat) => Lib.run_convert_bytes_const (P := Tryd.prog) w 75 5 C n c Tryd.underlying75 Tryd.underlying5
  clear hs hp hbytes
  obtain ⟨i0, hi, hz0, hz1, hz2⟩ := info_parts b8info
  go_enter Tryd.func44, Tryd.ntmps44
  go_wp2_with fail
  clear kc
  go_loopw [3, 4] (fun v i wr => RLaid w ls v i wr) (fun _ i _ => ls.length - (RowKit.intOf i).toNat)
  case atStart =>
    refine ⟨0, 1, Nat.zero_le _, rfl, rfl, .inr ⟨w.heap.size, rfl, by omega, by decide, Nat.le_refl _, ?_⟩, (Only.refl _ _).alloc _⟩
    exact src_marked _ w.heap.size #[.int .u8 108] (1, 2) 1 rfl 5 (heap_alloc_new w _)
  case round =>
    obtain ⟨k, n, hk, rfl, hn, hrow, hon⟩ := hrel
    obtain ⟨A, cc, rfl, hnc, hcm, _⟩ := hrow.shape
    have HN := Lib.hid hn
    have HR := Lib.hid hrow
    have HO := Lib.hid hon
    have hwz : w.heap.size ≤ wr.heap.size := hon.size
    clear hn hrow hon
    by_cases hlt : k < ls.length
    · obtain ⟨l, hl⟩ : ∃ l, ls[k]? = some l := ⟨_, List.getElem?_eq_getElem hlt⟩
      obtain ⟨v, hv, Ap, cp, rfl, hps, hp1, hp2⟩ := HP.out.2 k l hl
      obtain ⟨ad, rfl, _, hlt', hc⟩ := HS.out.2 (by omega)
      have hcell : wr.cell? (ad.add k) = some (.slice Ap l.length cp) := by
        exact (HO.out.cell (p := ad.add k) (by rw [block_add]; exact hlt') (fun h => h)).trans (hc k _ hv)
      have HPS := Lib.hid ((hps.only HO.out (fun _ _ h => h)).mono (G := fun k => k < w.heap.size) (fun _ h _ => h))
      have HL := Lib.hid hl
      have hfl : n + l.length ≤ 140737488355327 := by
        have h1 := flat_take_succ HL.out
        have h2 := flat_take_le ls (k + 1)
        have h3 := HN.out
        have h4 := HB.out
        rw [h1, List.length_append] at h2
        omega
      have hb0 : (0 : Int) ≤ k := by omega
      have hb1 : (k : Int) < ls.length := by omega
      clear hps hl hv hc
      go_wp2_with (at_builtin; refine wpList_append_own' rfl (.tmp 13) (.tmp 17) 75 rfl 5 i0 (.int .u8 0) 1 1 Tryd.underlying75 hi hz0 hz1 hz2 rfl (New w) (fun k => k < w.heap.size) _ _ _ rfl HR.out Ap l.length cp (byteCells l) rfl HPS.out (cells_one l) (by simp only [maxLen]; omega) (by omega) ?_; intro v' w2 hrow honly; have HR2 := Lib.hid hrow; have HO2 := Lib.hid honly; clear hrow honly)
      go_roundw
      case rel =>
        refine ⟨k + 1, n + l.length, by omega, by go_num, ?_, ?_, ?_⟩
        · rw [flat_take_succ HL.out, List.length_append]
          have := HN.out
          omega
        · have h := HR2.out
          rw [← cells_append] at h
          rw [flat_take_succ HL.out]
          refine Own.mono (F := Plus (New w) wr w2) h (fun j hj _ => ?_)
          rcases hj with hj | hj
          · exact hj
          · show w.heap.size ≤ j; omega
        · exact HO.out.trans HO2.out (fun j hj hl => by have : w.heap.size ≤ j := hj; omega)
      case measure => simp [RowKit.intOf]; omega
    · obtain rfl : k = ls.length := by omega
      have hfl : n + 1 ≤ 140737488355328 := by
        have h1 := flat_take_le ls ls.length
        have h3 := HN.out
        have h4 := HB.out
        omega
      go_wp2_with (at_builtin; refine wpList_append_own' rfl (.tmp 19) (.tmp 20) 75 rfl 5 i0 (.int .u8 0) 1 1 Tryd.underlying75 hi hz0 hz1 hz2 rfl (New w) (New w) _ _ _ rfl (HR.out.alloc _) _ 1 1 [.int .u8 101] rfl (srcb_new wr 5 #[.int .u8 101] 1 rfl (New w) (show w.heap.size ≤ wr.heap.size by omega)) (by intro u hu; simp at hu; subst hu; rfl) (by simp only [maxLen]; omega) (by omega) ?_; intro v' w2 hrow honly; obtain ⟨A2, c2, rfl, hc3, hc4, hs2⟩ := hrow.shape; have HS2 := Lib.hid hs2; have HO2 := Lib.hid honly; clear hrow honly hs2)
      go_ret
      have hn := HN.out
      rw [List.take_of_length_le (Nat.le_refl _)] at hn
      have hl : n + 1 = (tList ls).length := by rw [hn]; simp [tList]; omega
      have hs2 := HS2.out
      rw [List.take_of_length_le (Nat.le_refl _)] at hs2
      rw [hl] at hs2 hc3 ⊢
      refine ⟨A2, c2, rfl, ⟨A2, c2, rfl, ?_, hc3, by simpa [maxLen] using hc4⟩, ?_⟩
      · have e : byteCells (108 :: ls.flatten) ++ [Value.int .u8 101] = byteCells (tList ls) := by simp [tList, byteCells]
        rw [e] at hs2
        exact hs2.mono (fun _ _ h => h)
      · exact (HO.out.alloc _).trans HO2.out (fun j hj hl => by have : w.heap.size ≤ j := hj; omega)
end Go.Proofs.YtokgignmdgejoaaDoor
