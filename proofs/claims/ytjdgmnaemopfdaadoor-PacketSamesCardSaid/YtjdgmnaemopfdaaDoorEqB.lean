/- slices.Equal over bytes. -/
import Derived.Test.YtjdgmnaemopfdaaDoorOrdD
import Derived.Test.YtjdgmnaemopfdaaDoorPkL
namespace Go.Proofs.YtjdgmnaemopfdaaDoor
open Go.RowKit Go.Lib
set_option linter.unusedVariables false
set_option linter.unusedSimpArgs false
set_option maxRecDepth 100000
attribute [local go_sem ↓] Go.wp_at_zero Go.wp_at_succ

theorem take_eq_of {l m : List UInt8} (h : l.length = m.length) {k : Nat} (hk : l.take k = m.take k) {x y : UInt8} (hx : l[k]? = some x) (hy : m[k]? = some y) (hxy : x = y) : l.take (k + 1) = m.take (k + 1) := by
  rw [List.take_add_one, List.take_add_one, hk, hx, hy, hxy]
set_option maxHeartbeats 2000000 in
theorem bytes_equal (A B : Option Addr) (c d : Nat) (l m : List UInt8) (w : World) (S S' : Nat → Prop) (ha : Src w S 1 A l.length (byteCells l)) (hb : Src w S' 1 B m.length (byteCells m)) (hl : l.length ≤ 9223372036854775807) (hm : m.length ≤ 9223372036854775807) :
    Calls Tryd.prog 62 #[.slice A l.length c, .slice B m.length d] w fun e w' => e = .returned (.bool (decide (l = m))) ∧ Only Noth w w' := by
  have HA := Lib.hid ha
  have HB := Lib.hid hb
  have hn0 : (0 : Int) ≤ l.length := by omega
  clear ha hb
  go_enter Tryd.func62, Tryd.ntmps62
  by_cases hlen : l.length = m.length
  · have hlen2 : ((l.length : Int) == m.length) = true := by simp [hlen]
    have HL := Lib.hid hlen
    go_wp2_with fail
    go_loopw [13] (fun i W => ∃ k : Nat, k ≤ l.length ∧ i = .int .i64 (k : Int) ∧ l.take k = m.take k ∧ Only Noth w W) (fun i _ => l.length - (RowKit.intOf i).toNat)
    case atStart => exact ⟨0, Nat.zero_le _, rfl, by simp, Only.refl _ _⟩
    case round =>
      obtain ⟨k, hk, rfl, ht, ho⟩ := hrel
      have HT := Lib.hid ht
      have ON := Lib.hid ho
      clear ht ho
      by_cases hlt : k < l.length
      · obtain ⟨x, hx⟩ : ∃ x, l[k]? = some x := ⟨_, List.getElem?_eq_getElem hlt⟩
        obtain ⟨y, hy⟩ : ∃ y, m[k]? = some y := ⟨_, List.getElem?_eq_getElem (by omega)⟩
        obtain ⟨ad, rfl, _, hal, hc⟩ := (HA.out.only ON.out (fun _ _ h => h)).2 (by omega)
        obtain ⟨bd, rfl, _, hbl, hd⟩ := (HB.out.only ON.out (fun _ _ h => h)).2 (by omega)
        have hcell : wr.cell? (ad.add k) = some (.int .u8 x.toNat) := hc k _ (by rw [byteCells, List.getElem?_map, hx]; rfl)
        have hcell2 : wr.cell? (bd.add k) = some (.int .u8 y.toNat) := hd k _ (by rw [byteCells, List.getElem?_map, hy]; rfl)
        have HX := Lib.hid hx
        have HY := Lib.hid hy
        have hb0 : (0 : Int) ≤ k := by omega
        have hb1 : (k : Int) < l.length := by omega
        have hb2 : (k : Int) < m.length := by omega
        clear hx hy hc hd
        go_wp2_with fail
        refine wp_region_N Noth (by kernel_rfl) ?_
        refine wpN_take (i := 0) (d := some 16) rfl rfl (by kernel_rfl) (by kernel_rfl) (by kernel_rfl) (fun _ _ _ h => h) (sure_value (v := .slice (some ad) l.length c) (by rfl) (fun v1 h1 => by first | rfl | go_simp)) (Only.refl _ _) ?_
        simp only [Act.put, List.setIfInBounds_toArray, List.set_cons_zero, List.set_cons_succ]
        refine wpN_take (i := 1) (d := some 17) rfl rfl (by kernel_rfl) (by kernel_rfl) (by kernel_rfl) (fun _ _ _ h => h) (sure_value (v := .int .i64 (k : Int)) (by rfl) (fun v1 h1 => by first | rfl | go_simp)) (Only.refl _ _) ?_
        simp only [Act.put, List.setIfInBounds_toArray, List.set_cons_zero, List.set_cons_succ]
        refine wpN_take (i := 2) (d := some 18) rfl rfl (by kernel_rfl) (by kernel_rfl) (by kernel_rfl) (fun _ _ _ h => h) (sure_value (v := .pointer (some (ad.add k))) (by rfl) (fun v1 h1 => by first | rfl | go_simp)) (Only.refl _ _) ?_
        simp only [Act.put, List.setIfInBounds_toArray, List.set_cons_zero, List.set_cons_succ]
        refine wpN_take (i := 3) (d := some 19) rfl rfl (by kernel_rfl) (by kernel_rfl) (by kernel_rfl) (fun _ _ _ h => h) (sure_value (v := .int .u8 x.toNat) (by rfl) (fun v1 h1 => by have q : v1.cell? (ad.add k) = some (.int .u8 x.toNat) := ((Only.undrew h1).cell (by rw [block_add]; exact hal) (fun h => h)).trans hcell; go_simp)) (Only.refl _ _) ?_
        simp only [Act.put, List.setIfInBounds_toArray, List.set_cons_zero, List.set_cons_succ]
        refine wpN_take (i := 4) (d := some 20) rfl rfl (by kernel_rfl) (by kernel_rfl) (by kernel_rfl) (fun _ _ _ h => h) (sure_value (v := .slice (some bd) m.length d) (by rfl) (fun v1 h1 => by first | rfl | go_simp)) (Only.refl _ _) ?_
        simp only [Act.put, List.setIfInBounds_toArray, List.set_cons_zero, List.set_cons_succ]
        refine wpN_take (i := 5) (d := some 21) rfl rfl (by kernel_rfl) (by kernel_rfl) (by kernel_rfl) (fun _ _ _ h => h) (sure_value (v := .int .i64 (k : Int)) (by rfl) (fun v1 h1 => by first | rfl | go_simp)) (Only.refl _ _) ?_
        simp only [Act.put, List.setIfInBounds_toArray, List.set_cons_zero, List.set_cons_succ]
        refine wpN_take (i := 6) (d := some 22) rfl rfl (by kernel_rfl) (by kernel_rfl) (by kernel_rfl) (fun _ _ _ h => h) (sure_value (v := .pointer (some (bd.add k))) (by rfl) (fun v1 h1 => by first | rfl | go_simp)) (Only.refl _ _) ?_
        simp only [Act.put, List.setIfInBounds_toArray, List.set_cons_zero, List.set_cons_succ]
        refine wpN_take (i := 7) (d := some 23) rfl rfl (by kernel_rfl) (by kernel_rfl) (by kernel_rfl) (fun _ _ _ h => h) (sure_value (v := .int .u8 y.toNat) (by rfl) (fun v1 h1 => by have q : v1.cell? (bd.add k) = some (.int .u8 y.toNat) := ((Only.undrew h1).cell (by rw [block_add]; exact hbl) (fun h => h)).trans hcell2; go_simp)) (Only.refl _ _) ?_
        simp only [Act.put, List.setIfInBounds_toArray, List.set_cons_zero, List.set_cons_succ]
        refine wpN_take (i := 8) (d := some 24) rfl rfl (by kernel_rfl) (by kernel_rfl) (by kernel_rfl) (fun _ _ _ h => h) (sure_value (v := .bool ((x.toNat : Int) != (y.toNat : Int))) (by rfl) (fun v1 h1 => by first | rfl | go_simp)) (Only.refl _ _) ?_
        simp only [Act.put, List.setIfInBounds_toArray, List.set_cons_zero, List.set_cons_succ]
        refine wpN_done (by kernel_rfl) (fun w7 ho => ?_) _
        have ON7 := Lib.hid (ON.out.tr (Only.undrew ho))
        clear ho hcell hcell2
        by_cases h0 : x = y
        · have h1 : ((x.toNat : Int) != (y.toNat : Int)) = false := by rw [h0]; simp
          have HE := Lib.hid (take_eq_of HL.out HT.out HX.out HY.out h0)
          rw [h1]
          go_wp2_with fail
          go_roundw
          case rel => exact ⟨k + 1, by omega, by go_num, HE.out, ON7.out⟩
          case measure => simp [RowKit.intOf]; omega
        · have h1 : ((x.toNat : Int) != (y.toNat : Int)) = true := by
            have := u8_beq x y
            simp only [bne, this]
            simpa using h0
          have HNE := Lib.hid (show l ≠ m from fun e => h0 (by have a := HX.out; have b := HY.out; rw [e] at a; rw [a] at b; exact Option.some.inj b))
          rw [h1]
          go_wp2
          go_ret
          exact ⟨ret_bool (by rw [decide_eq_false HNE.out]), ON7.out⟩
      · obtain rfl : k = l.length := by omega
        have e : l = m := by
          have := HT.out
          rw [List.take_of_length_le (Nat.le_refl _), List.take_of_length_le (by rw [HL.out]; exact Nat.le_refl _)] at this
          exact this
        have HE := Lib.hid e
        clear e
        go_wp2
        go_ret
        exact ⟨ret_bool (by rw [decide_eq_true HE.out]), ON.out⟩
  · have hlen2 : ((l.length : Int) == m.length) = false := by simp; omega
    have HNE := Lib.hid (show l ≠ m from fun e => hlen (by rw [e]))
    go_wp2
    go_ret
    exact ⟨ret_bool (by rw [decide_eq_false HNE.out]), Only.refl _ _⟩
end Go.Proofs.YtjdgmnaemopfdaaDoor
