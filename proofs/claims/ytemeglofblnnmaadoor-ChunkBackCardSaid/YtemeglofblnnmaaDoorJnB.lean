/- slices.Grow, slices.Concat over bytes. -/
import Derived.Test.YtemeglofblnnmaaDoorJnA
namespace Go.Proofs.YtemeglofblnnmaaDoor
open Go.RowKit Go.Lib
set_option linter.unusedVariables false
set_option linter.unusedSimpArgs false
set_option maxRecDepth 100000
attribute [local go_sem ↓] Go.wp_at_zero Go.wp_at_succ

/-- Room for n bytes. -/
theorem grow_nil (n : Nat) (hn : n ≤ 1000000) (w : World) : Calls Tryd.prog 51 #[.slice none 0 0, .int .i64 n] w fun e w' => (∃ v, e = .returned v ∧ Row w' (New w) 5 1 v 0 []) ∧ Only Noth w w' := by
  have h1 : ¬ ((n : Int) < 0) := by omega
  by_cases h0 : n = 0
  · subst h0
    go_enter Tryd.func51, Tryd.ntmps51
    go_wp2
    go_ret
    exact ⟨⟨_, rfl, Row.nil _ _ _ _⟩, Only.refl _ _⟩
  · obtain ⟨i0, hi, hz0, hz1, hz2⟩ := info_parts bytinfo
    have h4 : (n : Int) > 0 := by omega
    have hold : (Builtin.firstCells i0.size 0 (.slice none 0 0)).run Tryd.prog w.drew = .ok ([] : List Value).toArray w.drew := run_firstCells_none w.drew i0.size 0 0 0
    have hrz : ∀ ty, (Builtin.append_ #[22, 3] ty #[.slice none 0 0, .int .i64 (n : Int)]).run Tryd.prog w =
        .ok (.slice (some ⟨w.heap.size, 0, none⟩) n (grownCap w n 0 5)) (w.drew.alloc (.cells (([] : List Value).toArray ++ Builtin.zeroCells (Value.int .u8 0).cells n ++ Builtin.zeroCells (Value.int .u8 0).cells (grownCap w n 0 5 - n)) 5)) := fun ty => by
      have h := Lib.run_append_grow_zeros w 22 3 ty 5 i0 (.int .u8 0) .i64 .i64 Tryd.underlying22 Tryd.underlying3 hi hz0 none 0 0 [] hold n (by omega) (by rw [hz1]; omega) (by omega) (by omega) (by rw [hz2]; omega) (by rw [Nat.zero_add]; exact growslice_fits (by omega) (by rw [hz2]; omega))
      rwa [Nat.zero_add] at h
    have hGn : n ≤ grownCap w n 0 5 := grownCap_ge w _ _ _
    have hGm : grownCap w n 0 5 ≤ maxLen := grownCap_le_maxLen w n 0 _ (by unfold maxLen; omega)
    obtain ⟨G, hG⟩ : ∃ G, grownCap w n 0 5 = G := ⟨_, rfl⟩
    rw [hG] at hrz hGn hGm
    obtain ⟨cs, hcs⟩ : ∃ cs, ([] : List Value).toArray ++ Builtin.zeroCells (Value.int .u8 0).cells n ++ Builtin.zeroCells (Value.int .u8 0).cells (G - n) = cs := ⟨_, rfl⟩
    rw [hcs] at hrz
    have hsz : cs.size = G := by
      rw [← hcs]
      simp only [Array.size_append, List.size_toArray, List.length_nil, size_zeroCells, Value.cells]
      show 0 + n * 1 + (G - n) * 1 = G
      omega
    have hG63 : G ≤ 9223372036854775807 := by unfold maxLen at hGm; omega
    have RW := Lib.hid (show Row (w.drew.alloc (.cells cs 5)) (New w) 5 1 (.slice (some ⟨w.heap.size, 0, none⟩) 0 G) 0 [] from
      ⟨by simp, _, G, rfl, Nat.zero_le _, hGm, .inr ⟨w.heap.size, cs, rfl, Nat.le_refl _, heap_alloc_new w.drew _, by omega, by simp⟩⟩)
    clear hold hG hcs hsz hGm
    go_enter Tryd.func51, Tryd.ntmps51
    go_wp2_with (at_builtin; refine Lib.wpList_append_run _ rfl _ _ _ _ rfl _ _ rfl rfl _ _ (hrz _) ?_)
    go_ret
    exact ⟨⟨_, rfl, RW.out⟩, (Only.refl Noth w).drew.alloc _⟩
/-- Parts, one behind the other, in memory. -/
def PsAt (w : World) (S : Nat → Prop) (b o : Nat) (ls : List (List UInt8)) : Prop := b < w.heap.size ∧ ∀ (k : Nat) l, ls[k]? = some l → ∃ v, w.cell? ⟨b, o + k, none⟩ = some v ∧ BsAt w S v l
theorem PsAt.noth {w w' : World} {S : Nat → Prop} {b o : Nat} {ls : List (List UInt8)} (h : PsAt w S b o ls) (ho : Only Noth w w') : PsAt w' S b o ls :=
  ⟨Nat.lt_of_lt_of_le h.1 ho.size, fun k l hk => by obtain ⟨v, h1, h2⟩ := h.2 k l hk; exact ⟨v, (ho.cell (p := ⟨b, o + k, none⟩) h.1 (fun h => h)).trans h1, h2.noth ho⟩⟩
theorem flat_take_len (ls : List (List UInt8)) (k : Nat) : (ls.take k).flatten.length ≤ ls.flatten.length := by
  have e : ls.flatten = (ls.take k).flatten ++ (ls.drop k).flatten := by rw [← List.flatten_append, List.take_append_drop]
  rw [e, List.length_append]
  omega
theorem flat_snoc {ls : List (List UInt8)} {k : Nat} {l : List UInt8} (h : ls[k]? = some l) : (ls.take (k + 1)).flatten = (ls.take k).flatten ++ l := by
  rw [List.take_add_one, h, Option.toList_some, List.flatten_append]
  simp
set_option maxHeartbeats 4000000 in
theorem concat_run (b o c : Nat) (S : Nat → Prop) (ls : List (List UInt8)) (hls : ls.length ≤ 1000) (hz : ls.flatten.length ≤ 1000000) (w : World) (h : PsAt w S b o ls) :
    Calls Tryd.prog 39 #[.slice (some ⟨b, o, none⟩) ls.length c] w fun e w' => (∃ v, e = .returned v ∧ BsAt w' (New w) v ls.flatten) ∧ Only Noth w w' := by
  have P := Lib.hid h
  have hl0 : (0 : Int) ≤ ls.length := by omega
  obtain ⟨i0, hi, hz0, hz1, hz2⟩ := info_parts bytinfo
  clear h
  go_enter Tryd.func39, Tryd.ntmps39
  go_wp2_with fail
  go_loopw [3, 11] (fun s i W => ∃ k : Nat, k ≤ ls.length ∧ i = .int .i64 (k : Int) ∧ s = .int .i64 (((ls.take k).flatten.length : Nat) : Int) ∧ Only Noth w W) (fun _ i _ => ls.length - (RowKit.intOf i).toNat)
  case atStart => exact ⟨0, Nat.zero_le _, rfl, by simp, Only.refl _ _⟩
  case round =>
    obtain ⟨k, hk, rfl, rfl, ho⟩ := hrel
    have O := Lib.hid ho
    have hk0 : (0 : Int) ≤ k := by omega
    have hfl := flat_take_len ls k
    obtain ⟨n, hn⟩ : ∃ n, (ls.take k).flatten.length = n := ⟨_, rfl⟩
    have HN := Lib.hid hn
    rw [hn] at hfl ⊢
    have hn0 : (0 : Int) ≤ n := by omega
    clear ho hn
    by_cases hlt : k < ls.length
    · obtain ⟨l, hl⟩ : ∃ l, ls[k]? = some l := ⟨_, List.getElem?_eq_getElem hlt⟩
      obtain ⟨v, hv, A, cc, rfl, _⟩ := (P.out.noth O.out).2 k l hl
      have hk1 : (k : Int) < ls.length := by omega
      have SN := Lib.hid (show (ls.take (k + 1)).flatten.length = n + l.length by rw [flat_snoc hl, List.length_append, HN.out])
      have hle := flat_take_len ls (k + 1)
      rw [SN.out] at hle
      have hl1 : (0 : Int) ≤ l.length := by omega
      have hs0 : ¬ ((n : Int) + l.length < 0) := by omega
      clear hl
      go_wp2_with fail
      go_roundw
      case rel => exact ⟨k + 1, by omega, by go_num, by rw [SN.out]; simp, O.out⟩
      case measure => simp [RowKit.intOf]; omega
    · obtain rfl : k = ls.length := by omega
      rw [List.take_of_length_le (Nat.le_refl _)] at HN
      have hnz : n ≤ 1000000 := by rw [← HN.out]; exact hz
      go_wp2_with fail
      refine (grow_nil n hnz _).mono ?_
      rintro e w1 ⟨⟨v, rfl, hr⟩, ho⟩
      obtain ⟨A1, c1, rfl⟩ := hr.shape
      have R0 := Lib.hid (hr.mono (G := New w) (fun k hk _ => Nat.le_trans O.out.size hk))
      have O1 := Lib.hid (O.out.tr ho)
      clear ho hr
      go_wp2_with fail
      go_loopw [6, 27] (fun s i W => ∃ k : Nat, k ≤ ls.length ∧ i = .int .i64 (k : Int) ∧ Row W (New w) 5 1 s (ls.take k).flatten.length (byteCs (ls.take k).flatten) ∧ Only Noth w W) (fun _ i _ => ls.length - (RowKit.intOf i).toNat)
      case atStart => exact ⟨0, Nat.zero_le _, rfl, R0.out, O1.out⟩
      case round =>
        obtain ⟨k, hk, rfl, hrow, ho⟩ := hrel
        obtain ⟨A2, c2, rfl⟩ := hrow.shape
        have RW := Lib.hid hrow
        have O2 := Lib.hid ho
        have hk0 : (0 : Int) ≤ k := by omega
        have hfl := flat_take_len ls k
        clear ho hrow
        by_cases hlt : k < ls.length
        · obtain ⟨l, hl⟩ : ∃ l, ls[k]? = some l := ⟨_, List.getElem?_eq_getElem hlt⟩
          obtain ⟨v, hv, A, cc, rfl, hsrc, hlc, _⟩ := (P.out.noth O2.out).2 k l hl
          have HS := Lib.hid hsrc
          have SN := Lib.hid (flat_snoc hl)
          have hk1 : (k : Int) < ls.length := by omega
          have hle := flat_take_len ls (k + 1)
          rw [SN.out, List.length_append] at hle
          clear hl hsrc
          go_wp2_with (at_builtin; refine wpList_append_row _ rfl (.tmp 31) (.tmp 32) 22 rfl 5 i0 (.int .u8 0) 1 1 Tryd.underlying22 hi hz0 hz1 hz2 rfl (New w) _ _ (ls.take k).flatten.length _ rfl RW.out A l.length cc (byteCs l) rfl HS.out (byteCs_one l) (by simp only [maxLen]; omega) (by omega) ?_; intro v' w3 hrow3 ho3 _; have HR3 := Lib.hid hrow3; have HO3 := Lib.hid ho3; clear hrow3 ho3)
          go_roundw
          case rel =>
            refine ⟨k + 1, by omega, by go_num, ?_, O2.out.trans HO3.out (fun j hj hl => by have hj : w.heap.size ≤ j := hj; omega)⟩
            rw [SN.out, List.length_append, byteCs_app]
            refine HR3.out.mono (fun k hk _ => ?_)
            rcases hk with hk | hk
            · exact hk
            · have := hk.1
              have := O2.out.size
              show w.heap.size ≤ k
              omega
          case measure => simp [RowKit.intOf]; omega
        · obtain rfl : k = ls.length := by omega
          rw [List.take_of_length_le (Nat.le_refl _)] at RW ⊢
          go_wp2
          go_ret
          exact ⟨⟨_, rfl, Row.bs RW.out rfl⟩, O2.out⟩
end Go.Proofs.YtemeglofblnnmaaDoor
