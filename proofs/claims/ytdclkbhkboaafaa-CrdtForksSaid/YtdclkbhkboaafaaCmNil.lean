/- Package crdt: a map that is not there. -/
import Derived.Test.YtdclkbhkboaafaaCmRD
namespace Go.Proofs.Ytdclkbhkboaafaa
open Go.RowKit Go.Lib Go.Sort
set_option linter.unusedVariables false
set_option linter.unusedSimpArgs false
set_option maxRecDepth 100000
attribute [local go_sem ↓] Go.wp_at_zero Go.wp_at_succ

theorem nil_put (w : World) (e : Ent) : Calls Try.prog 14 #[.pointer none, .agg e.arr] w fun e w' => e = .returned (.tuple #[.bool false, .int .i64 1]) ∧ Only Noth w w' := by
  go_enter Try.func14, Try.ntmps14
  go_wp2
  refine bodyPost_ret (v := .tuple #[.bool false, .int .i64 1]) (by simp [results, Try.results14, go_sem]) rfl ?_
  exact ⟨rfl, by first | exact Only.refl _ _ | exact (Only.refl _ _).alloc _⟩
theorem nil_get (w : World) (k : ByteArray) : Calls Try.prog 20 #[.pointer none, .string k] w fun e w' => e = .returned (.tuple #[.agg Ent.none.arr, .bool false]) ∧ Only Noth w w' := by
  have BR := Lib.hid (Hld.new w 34 Ent.none.arr)
  have O := Lib.hid ((Only.refl Noth w).alloc (.cells Ent.none.arr 34))
  go_enter Try.func20, Try.ntmps20
  go_wp2_with (refine wpList_store_whole rfl rfl 34 (.tmp 4) (.tmp 10) rfl w.heap.size rfl Ent.none.arr rfl 34 _ BR.out rfl (by simp [Value.oneCell']) (by kernel_rfl) ?_; intro w9 hb9 ho9 _; obtain ⟨y0, y1, y2, y3, y4⟩ := hb9.five; have O9 := Lib.hid (O.out.trans ho9 (fun j hj hl => by have hj : j = w.heap.size := hj; omega)); clear hb9 ho9)
  refine bodyPost_ret (v := .tuple #[.agg Ent.none.arr, .bool false]) (by simp [results, Try.results20, go_sem, *, Ent.none]) rfl ?_
  exact ⟨rfl, O9.out⟩
theorem nil_len (w : World) : Calls Try.prog 34 #[.pointer none] w fun e w' => e = .returned (.int .i64 0) ∧ Only Noth w w' := by
  go_enter Try.func34, Try.ntmps34
  go_wp2
  go_ret
  exact ⟨rfl, by first | exact Only.refl _ _ | exact (Only.refl _ _).alloc _⟩
theorem nil_fork (w : World) : Calls Try.prog 31 #[.pointer none] w fun e w' => e = .returned (.pointer none) ∧ Only Noth w w' := by
  go_enter Try.func31, Try.ntmps31
  go_wp2
  go_ret
  exact ⟨rfl, by first | exact Only.refl _ _ | exact (Only.refl _ _).alloc _⟩
theorem nil_which (fn : FuncId) (cb : Array Value) (w : World) : Calls Try.prog 38 #[.pointer none, .func (.func fn) #[] cb] w fun e w' => e = .returned (.slice none 0 0) ∧ Only Noth w w' := by
  go_enter Try.func38, Try.ntmps38
  go_wp2
  go_ret
  exact ⟨rfl, Only.refl _ _⟩
theorem nil_list (w : World) : Calls Try.prog 18 #[.pointer none] w fun e w' => e = .returned (.slice none 0 0) ∧ Only Noth w w' := by
  go_enter Try.func18, Try.ntmps18
  go_wp2_with fail
  refine (nil_which _ _ _).mono ?_
  rintro r w1 ⟨rfl, ho⟩
  have O := Lib.hid (ho)
  clear ho
  go_wp2
  go_ret
  exact ⟨rfl, O.out⟩
theorem nil_view (w : World) (now : Int) : Calls Try.prog 28 #[.pointer none, .int .i64 now] w fun e w' => e = .returned (.slice none 0 0) ∧ Only Noth w w' := by
  go_enter Try.func28, Try.ntmps28
  go_wp2_with fail
  refine (nil_which _ _ _).mono ?_
  rintro r w1 ⟨rfl, ho⟩
  have O := Lib.hid (((Only.refl Noth w).alloc _).tr ho)
  clear ho
  go_wp2
  go_ret
  exact ⟨rfl, O.out⟩
theorem nil_forget (w : World) (now : Int) : Calls Try.prog 32 #[.pointer none, .int .i64 now] w fun e w' => e = .returned (.int .i64 0) ∧ Only Noth w w' := by
  go_enter Try.func32, Try.ntmps32
  go_wp2_with fail
  refine (nil_len _).mono ?_
  rintro r w1 ⟨rfl, ho⟩
  have O := Lib.hid (((Only.refl Noth w).alloc _).tr ho)
  clear ho
  go_wp2_with fail
  refine (nil_len _).mono ?_
  rintro r w2 ⟨rfl, ho⟩
  replace O := Lib.hid (O.out.tr ho)
  clear ho
  go_wp2
  go_ret
  exact ⟨rfl, O.out⟩
set_option maxHeartbeats 2000000 in
theorem nil_merge (l : List Ent) (A : Option Addr) (c : Nat) (w : World) (he : Ents w (.slice A l.length c) l) :
    Calls Try.prog 23 #[.pointer none, .slice A l.length c] w fun e w' => e = .returned (.int .i64 0) ∧ Only Noth w w' := by
  have E := Lib.hid he
  have hl : l.length ≤ 9223372036854775807 := by obtain ⟨_, _, _, _, h1, h2⟩ := he; omega
  have hn0 : (0 : Int) ≤ l.length := by omega
  clear he
  go_enter Try.func23, Try.ntmps23
  go_wp2_with fail
  go_loopw [5, 12] (fun n i W => ∃ k : Nat, k ≤ l.length ∧ i = .int .i64 (k : Int) ∧ n = .int .i64 0 ∧ Only Noth w W) (fun _ i _ => l.length - (RowKit.intOf i).toNat)
  case atStart => exact ⟨0, Nat.zero_le _, rfl, rfl, Only.refl _ _⟩
  case round =>
    obtain ⟨k, hk, rfl, rfl, ho⟩ := hrel
    have E1 := Lib.hid (E.out.noth ho)
    have ON := Lib.hid ho
    clear ho
    by_cases hlt : k < l.length
    · obtain ⟨x, hx⟩ : ∃ x, l[k]? = some x := ⟨_, List.getElem?_eq_getElem hlt⟩
      obtain ⟨bb, o, hA, hbl, e0, e1, e2, e3, e4⟩ := E1.out.at hx
      subst hA
      have hb0 : (0 : Int) ≤ k := by omega
      have hb1 : (k : Int) < l.length := by omega
      clear hx
      go_wp2_with fail
      refine (nil_put _ x).mono ?_
      rintro r w1 ⟨rfl, ho2⟩
      have O2 := Lib.hid ((ON.out.alloc _).tr ho2)
      clear ho2 e0 e1 e2 e3 e4
      go_wp2_with fail
      go_roundw
      case rel => exact ⟨k + 1, by omega, by go_num, rfl, O2.out⟩
      case measure => simp [RowKit.intOf]; omega
    · obtain rfl : k = l.length := by omega
      go_wp2
      go_ret
      exact ⟨rfl, ON.out⟩
set_option maxHeartbeats 4000000 in
theorem nil_delta (l : List Ent) (A : Option Addr) (c : Nat) (hs : ∀ e ∈ l, e.key.size ≤ 9223372036854775807) (w : World) (he : Ents w (.slice A l.length c) l) :
    Calls Try.prog 24 #[.pointer none, .slice A l.length c] w fun e w' => e = .returned (.slice none 0 0) ∧ Only Noth w w' := by
  have E := Lib.hid he
  have HS := Lib.hid hs
  have hl : l.length ≤ 9223372036854775807 := by obtain ⟨_, _, _, _, h1, h2⟩ := he; omega
  have hl2 : l.length * 56 ≤ 18446744073709551615 * 56 := by omega
  have hn0 : (0 : Int) ≤ l.length := by omega
  have hmm := @run_makeMap Try.prog
  have a1 := (Only.refl Noth w).alloc (.map #[] 0)
  have a2 := (Only.refl Noth (w.alloc (.map #[] 0))).alloc (.cells #[.map (some w.heap.size)] 60)
  have b1 := Hld.new (w.alloc (.map #[] 0)) 60 #[.map (some w.heap.size)]
  simp only [World.size_alloc] at b1
  have B0 := Lib.hid b1
  have MI := Lib.hid ((made_is w).only a2 (fun h => h))
  have O0 := Lib.hid (a1.tr a2)
  clear he hs a1 a2 b1
  go_enter Try.func24, Try.ntmps24
  go_wp2_with fail
  clear hmm
  go_loopw [13] (fun i W => ∃ k : Nat, k ≤ l.length ∧ i = .int .i64 (k : Int) ∧ Hld W (w.heap.size + 1) 60 #[.map (some w.heap.size)] ∧ MapIs W w.heap.size (dbest (l.take k)) ∧ Only Noth w W) (fun i _ => l.length - (RowKit.intOf i).toNat)
  case atStart => exact ⟨0, Nat.zero_le _, rfl, B0.out, MI.out, O0.out⟩
  case round =>
    obtain ⟨k, hk, rfl, hb, hm, ho⟩ := hrel
    have BX := Lib.hid hb
    have MX := Lib.hid hm
    have ON := Lib.hid ho
    clear hb hm ho B0 MI O0
    by_cases hlt : k < l.length
    · obtain ⟨x, hx⟩ : ∃ x, l[k]? = some x := ⟨_, List.getElem?_eq_getElem hlt⟩
      have HX := Lib.hid hx
      have hxs := HS.out x (List.mem_of_getElem? hx)
      obtain ⟨A', c', q0, hel, _, _⟩ := E.out.noth ON.out
      injection q0 with q1 q2 q3
      subst q1 q3
      clear q2
      obtain ⟨bb, o, hA, _, hbl, e0, e1, e2, e3, e4⟩ := hel.ent hx
      subst hA
      have hb0 : (0 : Int) ≤ k := by omega
      have hb1 : (k : Int) < l.length := by omega
      have a1 := (Only.refl Noth wr).alloc (.cells x.arr 34)
      have c0 : (wr.alloc (.cells x.arr 34)).cell? ⟨w.heap.size + 1, 0, none⟩ = some (.map (some w.heap.size)) := (BX.out.only a1 (fun h => h)).cell 0
      have hlk := look_ok_run (MX.out.only a1 (fun h => h)) x.key hxs
      have A1 := Lib.hid a1
      obtain ⟨LL, hLL⟩ : ∃ LL, dbest (l.take k) = LL := ⟨_, rfl⟩
      have HLL := Lib.hid hLL
      rw [hLL] at hlk MX
      have hLn : LL.length < 9223372036854775807 := by have := (dbest_ok l k).2; rw [hLL] at this; omega
      have SN := Lib.hid (show dbest (l.take (k + 1)) = dstep LL x by rw [List.take_add_one, HX.out, Option.toList_some, dbest_snoc, hLL])
      obtain ⟨old, hold⟩ : ∃ old, look x.key LL = old := ⟨_, rfl⟩
      obtain ⟨is, his⟩ : ∃ is, (cget x.key.data.toList LL).isSome = is := ⟨_, rfl⟩
      rw [hold, his] at hlk
      have HOLD := Lib.hid hold
      have HIS := Lib.hid his
      clear hx hel a1 hLL hold his
      cases is
      · have DN := Lib.hid (dstep_none (L := LL) (x := x) HIS.out)
        have A2 := Lib.hid (A1.out.alloc (.cells old.arr 34))
        have c1 : ((wr.alloc (.cells x.arr 34)).alloc (.cells old.arr 34)).cell? ⟨w.heap.size + 1, 0, none⟩ = some (.map (some w.heap.size)) := (BX.out.only A2.out (fun h => h)).cell 0
        go_wp2_with (at_mapUpdate; refine wpList_put_map _ rfl _ _ _ rfl w.heap.size LL x rfl rfl rfl (MX.out.only A2.out (fun h => h)) hxs hLn ?_; intro w9 hm9 ho9; have M9 := Lib.hid hm9; have O9 := Lib.hid ho9; clear hm9 ho9)
        go_roundw
        case rel => exact ⟨k + 1, by omega, by go_num, (BX.out.only A2.out (fun h => h)).only O9.out (fun e => by have e : w.heap.size + 1 = w.heap.size := e; omega), by rw [SN.out, DN.out]; exact M9.out, (ON.out.tr A2.out).trans O9.out (fun j hj hl => by have hj : j = w.heap.size := hj; omega)⟩
        case measure => simp [RowKit.intOf]; omega
      · have DN := Lib.hid (lacks_some (L := LL) (x := x) HIS.out).2
        go_wp2_with fail
        refine (entry_above x old _).mono ?_
        rintro e w6 ⟨rfl, ho6⟩
        have A2 := Lib.hid ((A1.out.alloc (.cells old.arr 34)).tr ho6)
        have XB := Lib.hid (((Hld.new wr 34 x.arr).only ((Only.refl Noth (wr.alloc (.cells x.arr 34))).alloc (.cells old.arr 34)) (fun h => h)).only ho6 (fun h => h))
        clear ho6 c0 hlk
        cases ha : x.above old
        · go_wp2_with fail
          go_roundw
          case rel => exact ⟨k + 1, by omega, by go_num, BX.out.only A2.out (fun h => h), by rw [SN.out, DN.out, HOLD.out, ha]; exact MX.out.only A2.out (fun h => h), ON.out.tr A2.out⟩
          case measure => simp [RowKit.intOf]; omega
        · have c1 : w6.cell? ⟨w.heap.size + 1, 0, none⟩ = some (.map (some w.heap.size)) := (BX.out.only A2.out (fun h => h)).cell 0
          obtain ⟨x0, x1, x2, x3, x4⟩ := XB.out.five
          go_wp2_with (at_mapUpdate; refine wpList_put_map _ rfl _ _ _ rfl w.heap.size LL x rfl rfl rfl (MX.out.only A2.out (fun h => h)) hxs hLn ?_; intro w9 hm9 ho9; have M9 := Lib.hid hm9; have O9 := Lib.hid ho9; clear hm9 ho9)
          go_roundw
          case rel => exact ⟨k + 1, by omega, by go_num, (BX.out.only A2.out (fun h => h)).only O9.out (fun e => by have e : w.heap.size + 1 = w.heap.size := e; omega), by rw [SN.out, DN.out, HOLD.out, ha]; exact M9.out, (ON.out.tr A2.out).trans O9.out (fun j hj hl => by have hj : j = w.heap.size := hj; omega)⟩
          case measure => simp [RowKit.intOf]; omega
    · obtain rfl : k = l.length := by omega
      rw [List.take_of_length_le (Nat.le_refl _)] at MX
      go_wp2_with fail
      refine (nil_which _ _ _).mono ?_
      rintro e w1 ⟨rfl, ho⟩
      have HO := Lib.hid (ON.out.tr ho)
      clear ho
      go_wp2
      go_ret
      exact ⟨rfl, HO.out⟩
end Go.Proofs.Ytdclkbhkboaafaa
