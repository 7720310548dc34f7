/- The document's Read of a packet. -/
import Derived.Test.YtjdgmnaemopfdaaDoorMRQ
import Derived.Deep.LoopGhost
namespace Go.Proofs.YtjdgmnaemopfdaaDoor
open Go.RowKit Go.Lib
set_option linter.unusedVariables false
set_option linter.unusedSimpArgs false
set_option maxRecDepth 100000
attribute [local go_sem ↓] Go.wp_at_zero Go.wp_at_succ

/-- At the head of the first loop. -/
def RHd (w : World) (l : List UInt8) (rb : Nat) (u : Value) (W : World) : Prop :=
  ∃ (k : Nat) (A : Option Addr) (c : Nat) (r : Rd) (vs : List Int), k ≤ 4 ∧ u = .int .i64 (k : Int) ∧ vs.length = k ∧ RQ w W rb A c r (arr4 vs) (pkc 0 0 0 0 none 0 0 none 0 0) ∧ Nice 4 vs ∧ r.b.length ≤ l.length ∧
    ∀ q : Pkt, q.Of l → r = left q.nums k (108 :: ((q.ms.map tMem).flatten ++ 101 :: q.back)) ∧ vs = q.nums.take k
theorem reads_fit {r z : Rd} {y : Ent} (h : Ent.Reads r y z) : y.Ok ∧ y.key.size ≤ 9223372036854775807 ∧ y.val.size ≤ 9223372036854775807 := by
  obtain ⟨r1, r2, r3, r4, r5, r6, k, v, t, o, u, _, hy⟩ := h
  rcases hy with ⟨_, o0, o1, hc, rfl⟩ | ⟨_, rfl⟩
  · have := check_zero.1 hc
    simp only at this
    exact ⟨⟨by simp only; omega, by simp only; omega, o0, o1, by simp only; omega, by simp only; omega⟩, by simp only; omega, by simp only; omega⟩
  · exact ⟨⟨by decide, by decide, by decide, by decide, by decide, by decide⟩, by decide, by decide⟩
set_option maxHeartbeats 16000000 in
theorem ref_pread (Al : Option Addr) (cl : Nat) (l : List UInt8) (w : World) (hl : Part w (.slice Al l.length cl) l) : Calls Tryd.prog 36 #[.slice Al l.length cl] w
    fun e w' => RReadAns l e w' ∧ Only Noth w w' := by
  have PT := Lib.hid hl
  have hc1 : l.length ≤ cl ∧ cl ≤ 9223372036854775807 := by obtain ⟨_, _, e, _, h1, h2⟩ := hl; injection e with _ _ e3; subst e3; exact ⟨h1, h2⟩
  have hln : (l.length : Int) ≤ 9223372036854775807 := by omega
  have S0 := Lib.hid (show Src w (Old w) 1 Al l.length (byteCells l) from by obtain ⟨_, _, e, h, _, _⟩ := hl; injection e with e1 _ _; subst e1; exact h)
  have a0 := (Only.refl Noth w).alloc (.cells (pkc 0 0 0 0 none 0 0 none 0 0) 50)
  have R0 := Lib.hid (Hld.new w 50 (pkc 0 0 0 0 none 0 0 none 0 0))
  have ON := Lib.hid a0
  obtain ⟨i0, hi, hz0, hz1, hz2⟩ := info_parts meminfo
  obtain ⟨i1, hj, hy0, hy1, hy2⟩ := info_parts entinfo
  clear hl
  go_enter Tryd.func36, Tryd.ntmps36
  by_cases hb : (16384 : Int) < l.length
  · go_wp2_with (refine wpList_store_whole rfl rfl 50 (.tmp 2) (.tmp 16) rfl w.heap.size rfl (pkc 0 0 0 0 none 0 0 none 0 0) rfl 50 _ R0.out rfl (by simp [Value.oneCell']) (by kernel_rfl) ?_; intro w9 hb9 ho9 _; obtain ⟨x0, x1, x2, x3, x4, x5⟩ := hb9.six; have ZO := Lib.hid (ON.out.trans ho9 (fun j hj hl => by have hj : j = w.heap.size := hj; omega)); clear hb9 ho9)
    refine bodyPost_ret (v := .tuple #[.agg (pkc 0 0 0 0 none 0 0 none 0 0), .int .i64 14]) (by simp [results, Tryd.results36, go_sem, x0, x1, x2, x3, x4, x5]) rfl ?_
    exact ⟨.inr ⟨fun q hq => by obtain ⟨_, h0, rfl⟩ := hq; have := (pcheck_zero.1 h0).2.2; omega, rfl⟩, ZO.out⟩
  have a1 := (Only.refl Noth (w.alloc (.cells (pkc 0 0 0 0 none 0 0 none 0 0) 50))).alloc (.cells (pkc 0 0 0 0 none 0 0 none 0 0) 50)
  have a2 := (Only.refl Noth ((w.alloc (.cells (pkc 0 0 0 0 none 0 0 none 0 0) 50)).alloc (.cells (pkc 0 0 0 0 none 0 0 none 0 0) 50))).alloc (.cells #[.int .i64 0, .int .i64 0, .int .i64 0, .int .i64 0] 98)
  have b1 := (Hld.new (w.alloc (.cells (pkc 0 0 0 0 none 0 0 none 0 0) 50)) 50 (pkc 0 0 0 0 none 0 0 none 0 0)).only a2 (fun h => h)
  have b2 := Hld.new ((w.alloc (.cells (pkc 0 0 0 0 none 0 0 none 0 0) 50)).alloc (.cells (pkc 0 0 0 0 none 0 0 none 0 0) 50)) 98 #[.int .i64 0, .int .i64 0, .int .i64 0, .int .i64 0]
  simp only [World.size_alloc] at b1 b2
  have B0 := Lib.hid ((R0.out.only a1 (fun h => h)).only a2 (fun h => h))
  have B1 := Lib.hid b1
  have B2 := Lib.hid b2
  have O2 := Lib.hid ((ON.out.tr a1).tr a2)
  have RV := Lib.hid (show In.Rv (Old w) (((w.alloc (.cells (pkc 0 0 0 0 none 0 0 none 0 0) 50)).alloc (.cells (pkc 0 0 0 0 none 0 0 none 0 0) 50)).alloc (.cells #[.int .i64 0, .int .i64 0, .int .i64 0, .int .i64 0] 98)) (.agg #[.slice Al (⟨l, 0⟩ : Rd).b.length cl, .int .i64 (⟨l, 0⟩ : Rd).err]) ⟨l, 0⟩ from
    ⟨Al, cl, rfl, ⟨Al, cl, rfl, S0.out.only O2.out (fun _ _ h => h), hc1.1, hc1.2⟩, Rd.sane_mk _⟩)
  obtain ⟨X0, hX0⟩ : ∃ X, Rd.byte ⟨l, 0⟩ 108 = X := ⟨_, rfl⟩
  have HX0 := Lib.hid hX0
  have hX0l : X0.b.length ≤ l.length := by have := byte_le ⟨l, 0⟩ 108; rw [hX0] at this; exact this
  have XS := Lib.hid (show X0.Sane by rw [← hX0]; exact Rd.byte_sane (Rd.sane_mk _) _)
  clear a0 a1 a2 b1 b2 hX0
  go_wp2_with fail
  refine (rb_v _ ⟨l, 0⟩ X0 108 HX0.out _ RV.out).mono ?_
  rintro e w1 ⟨A2, c2, rfl, hx, ho⟩
  have X1 := Lib.hid hx
  have O3 := Lib.hid ho
  have O4 := Lib.hid (O2.out.tr ho)
  obtain ⟨rb, hrb⟩ : ∃ x, w1.heap.size = x := ⟨_, rfl⟩
  have HRB := Lib.hid hrb
  clear hx ho
  go_wp2_with fail
  have K0 := Lib.hid (show RQ w (w1.alloc (.cells #[.slice A2 X0.b.length c2, .int .i64 X0.err] 40)) rb A2 c2 X0 (arr4 []) (pkc 0 0 0 0 none 0 0 none 0 0) from by
    have a := (Only.refl Noth w1).alloc (.cells #[.slice A2 X0.b.length c2, .int .i64 X0.err] 40)
    have hz := O3.out.size
    simp only [World.size_alloc] at hz
    exact ⟨by rw [← HRB.out]; exact Hld.new _ _ _, X1.out.noth a, (B0.out.only O3.out (fun h => h)).only a (fun h => h), (B1.out.only O3.out (fun h => h)).only a (fun h => h), (B2.out.only O3.out (fun h => h)).only a (fun h => h), O4.out.tr a, by have := HRB.out; omega⟩)
  clear hrb
  go_loopw [7] (fun u W => RHd w l rb u W) (fun u _ => 4 - (RowKit.intOf u).toNat)
  case atStart => exact ⟨0, A2, c2, X0, [], by omega, rfl, rfl, K0.out, fun j v hj => by simp at hj, hX0l, fun q hq => ⟨by rw [← HX0.out]; exact of_head hq, rfl⟩⟩
  case round =>
    obtain ⟨k, A, c, r, vs, hk, rfl, hvl, hq, hn, hrl, hx⟩ := hrel
    have K := Lib.hid hq
    have HV := Lib.hid hvl
    have HN := Lib.hid hn
    have HX := Lib.hid hx
    obtain ⟨y0, y1⟩ := hq.box.two
    clear hq hvl hn hx K0 X1 RV
    by_cases hlt : k < 4
    · obtain ⟨r', v, hrv⟩ : ∃ r' v, r.int = (r', v) := ⟨_, _, rfl⟩
      have HRV := Lib.hid hrv
      have hr1 := int_range r
      rw [hrv] at hr1
      obtain ⟨hv0, hv1⟩ := hr1
      have hr2 : r'.b.length ≤ l.length := by have := int_le (r := r) (by obtain ⟨_, _, _, _, h⟩ := K.out.rv; exact h); rw [hrv] at this; simp only at this; omega
      have hk0 : (0 : Int) ≤ k := by omega
      have hk4 : (k : Int) < 4 := by omega
      have STEP := Lib.hid (show ∀ q : Pkt, q.Of l → (0 ≤ v ∧ (k + 1 < 4 → v ≤ 255)) ∧ r' = left q.nums (k + 1) (108 :: ((q.ms.map tMem).flatten ++ 101 :: q.back)) ∧ vs ++ [v] = q.nums.take (k + 1) from fun q hq => by
        obtain ⟨h1, h2⟩ := HX.out q hq
        exact nums_step (of_nums hq).1 (by rw [(of_nums hq).2]; exact hlt) h1 h2 hrv)
      clear hrv
      go_wp2_with fail
      refine (ri_v _ r r' v HRV.out _ K.out.rv).mono ?_
      rintro e w8 ⟨A3, c3, rfl, hx, ho⟩
      have HX2 := Lib.hid hx
      have K := Lib.hid (K.out.call ho)
      clear hx ho y0 y1
      by_cases hv : v < 0
      · go_wp2_with (first | (refine wpList_store_whole rfl rfl 40 (.tmp 6) (.tmp 28) rfl rb rfl #[.slice A3 r'.b.length c3, .int .i64 r'.err] rfl 40 _ K.out.box rfl (by simp [Value.oneCell']) (by kernel_rfl) ?_; intro w9 hb9 ho9 _; have K := Lib.hid (K.out.putr HX2.out hb9 ho9); clear hb9 ho9) | (refine wpList_store_i64 rfl rfl (.tmp 30) (.tmp 29) rfl (w.heap.size + 1 + 1) k rfl v rfl 98 _ K.out.n _ (arr4_at HV.out hlt) ?_; intro w9 hb9 ho9; have hb8 := hb9; rw [arr4_set v HV.out hlt] at hb8; have K := Lib.hid (K.out.putn hb8 ho9); have nk : w9.cell? ⟨w.heap.size + 1 + 1, k, none⟩ = some (.int .i64 v) := (hb8.cell k).trans (arr4_got v HV.out hlt); clear hb8 hb9 ho9) | (refine wpList_store_whole rfl rfl 50 (.tmp 2) (.tmp 45) rfl w.heap.size rfl (pkc 0 0 0 0 none 0 0 none 0 0) rfl 50 _ K.out.res rfl (by simp [Value.oneCell']) (by kernel_rfl) ?_; intro w9 hb9 ho9 _; obtain ⟨x0, x1, x2, x3, x4, x5⟩ := hb9.six; have ZO := Lib.hid (K.out.only.trans ho9 (fun j hj hl => by have hj : j = w.heap.size := hj; omega)); clear hb9 ho9))
        refine bodyPost_ret (v := .tuple #[.agg (pkc 0 0 0 0 none 0 0 none 0 0), .int .i64 14]) (by simp [results, Tryd.results36, go_sem, x0, x1, x2, x3, x4, x5]) rfl ?_
        exact ⟨.inr ⟨fun q hq => by have := (STEP.out q hq).1.1; omega, rfl⟩, ZO.out⟩
      · by_cases hk3 : k < 3
        · have hk3' : (k : Int) < 3 := by omega
          by_cases hv2 : 255 < v
          · go_wp2_with (first | (refine wpList_store_whole rfl rfl 40 (.tmp 6) (.tmp 28) rfl rb rfl #[.slice A3 r'.b.length c3, .int .i64 r'.err] rfl 40 _ K.out.box rfl (by simp [Value.oneCell']) (by kernel_rfl) ?_; intro w9 hb9 ho9 _; have K := Lib.hid (K.out.putr HX2.out hb9 ho9); clear hb9 ho9) | (refine wpList_store_i64 rfl rfl (.tmp 30) (.tmp 29) rfl (w.heap.size + 1 + 1) k rfl v rfl 98 _ K.out.n _ (arr4_at HV.out hlt) ?_; intro w9 hb9 ho9; have hb8 := hb9; rw [arr4_set v HV.out hlt] at hb8; have K := Lib.hid (K.out.putn hb8 ho9); have nk : w9.cell? ⟨w.heap.size + 1 + 1, k, none⟩ = some (.int .i64 v) := (hb8.cell k).trans (arr4_got v HV.out hlt); clear hb8 hb9 ho9) | (refine wpList_store_whole rfl rfl 50 (.tmp 2) (.tmp 45) rfl w.heap.size rfl (pkc 0 0 0 0 none 0 0 none 0 0) rfl 50 _ K.out.res rfl (by simp [Value.oneCell']) (by kernel_rfl) ?_; intro w9 hb9 ho9 _; obtain ⟨x0, x1, x2, x3, x4, x5⟩ := hb9.six; have ZO := Lib.hid (K.out.only.trans ho9 (fun j hj hl => by have hj : j = w.heap.size := hj; omega)); clear hb9 ho9))
            refine bodyPost_ret (v := .tuple #[.agg (pkc 0 0 0 0 none 0 0 none 0 0), .int .i64 14]) (by simp [results, Tryd.results36, go_sem, x0, x1, x2, x3, x4, x5]) rfl ?_
            exact ⟨.inr ⟨fun q hq => by have := (STEP.out q hq).1.2 (by omega); omega, rfl⟩, ZO.out⟩
          · go_wp2_with (first | (refine wpList_store_whole rfl rfl 40 (.tmp 6) (.tmp 28) rfl rb rfl #[.slice A3 r'.b.length c3, .int .i64 r'.err] rfl 40 _ K.out.box rfl (by simp [Value.oneCell']) (by kernel_rfl) ?_; intro w9 hb9 ho9 _; have K := Lib.hid (K.out.putr HX2.out hb9 ho9); clear hb9 ho9) | (refine wpList_store_i64 rfl rfl (.tmp 30) (.tmp 29) rfl (w.heap.size + 1 + 1) k rfl v rfl 98 _ K.out.n _ (arr4_at HV.out hlt) ?_; intro w9 hb9 ho9; have hb8 := hb9; rw [arr4_set v HV.out hlt] at hb8; have K := Lib.hid (K.out.putn hb8 ho9); have nk : w9.cell? ⟨w.heap.size + 1 + 1, k, none⟩ = some (.int .i64 v) := (hb8.cell k).trans (arr4_got v HV.out hlt); clear hb8 hb9 ho9))
            go_roundw
            case rel => exact ⟨k + 1, A3, c3, r', vs ++ [v], by omega, by go_num, by simp [HV.out], K.out, HN.out.snoc HV.out (by omega) hv1 (by omega), hr2, fun q hq => (STEP.out q hq).2⟩
            case measure => simp [RowKit.intOf]; omega
        · have hk3' : ¬ (k : Int) < 3 := by omega
          go_wp2_with (first | (refine wpList_store_whole rfl rfl 40 (.tmp 6) (.tmp 28) rfl rb rfl #[.slice A3 r'.b.length c3, .int .i64 r'.err] rfl 40 _ K.out.box rfl (by simp [Value.oneCell']) (by kernel_rfl) ?_; intro w9 hb9 ho9 _; have K := Lib.hid (K.out.putr HX2.out hb9 ho9); clear hb9 ho9) | (refine wpList_store_i64 rfl rfl (.tmp 30) (.tmp 29) rfl (w.heap.size + 1 + 1) k rfl v rfl 98 _ K.out.n _ (arr4_at HV.out hlt) ?_; intro w9 hb9 ho9; have hb8 := hb9; rw [arr4_set v HV.out hlt] at hb8; have K := Lib.hid (K.out.putn hb8 ho9); have nk : w9.cell? ⟨w.heap.size + 1 + 1, k, none⟩ = some (.int .i64 v) := (hb8.cell k).trans (arr4_got v HV.out hlt); clear hb8 hb9 ho9))
          go_roundw
          case rel => exact ⟨k + 1, A3, c3, r', vs ++ [v], by omega, by go_num, by simp [HV.out], K.out, HN.out.snoc HV.out (by omega) hv1 (by omega), hr2, fun q hq => (STEP.out q hq).2⟩
          case measure => simp [RowKit.intOf]; omega
    · obtain rfl : k = 4 := by omega
      obtain ⟨a, b, d, s, rfl⟩ : ∃ a b d s, vs = [a, b, d, s] := by
        have := HV.out
        match vs, this with
        | [a, b, d, s], _ => exact ⟨a, b, d, s, rfl⟩
      obtain ⟨ha0, -, ha1⟩ := HN.out 0 a rfl
      obtain ⟨hb0, -, hb1⟩ := HN.out 1 b rfl
      obtain ⟨hd0, -, hd1⟩ := HN.out 2 d rfl
      obtain ⟨hs0, hs1, -⟩ := HN.out 3 s rfl
      have ha1 := ha1 (by decide)
      have hb1 := hb1 (by decide)
      have hd1 := hd1 (by decide)
      go_wp2_with fail
      refine wp_region_N (At (w.heap.size + 1)) (by kernel_rfl) ?_
      refine wpN_take (i := 0) (d := some 46) rfl rfl (by kernel_rfl) (by kernel_rfl) (by kernel_rfl) (fun _ _ _ h => h) (sure_value (v := .pointer (some ⟨w.heap.size + 1 + 1, 0, none⟩)) (by rfl) (fun v1 h1 => by first | rfl | go_simp)) (Only.refl _ _) ?_
      simp only [Act.put, List.setIfInBounds_toArray, List.set_cons_zero, List.set_cons_succ]
      refine wpN_take (i := 1) (d := some 47) rfl rfl (by kernel_rfl) (by kernel_rfl) (by kernel_rfl) (fun _ _ _ h => h) (sure_value (v := .int .i64 a) (by rfl) (fun v1 h1 => by have q : v1.cell? ⟨w.heap.size + 1 + 1, 0, none⟩ = some (.int .i64 a) := (K.out.n.drew.only h1 (fun e => by have e : w.heap.size + 1 + 1 = w.heap.size + 1 := e; omega)).cell 0; go_simp)) (Only.refl _ _) ?_
      simp only [Act.put, List.setIfInBounds_toArray, List.set_cons_zero, List.set_cons_succ]
      refine wpN_take (i := 2) (d := some 48) rfl rfl (by kernel_rfl) (by kernel_rfl) (by kernel_rfl) (fun _ _ _ h => h) (sure_value (v := .int .u8 a) (by rfl) (fun v1 h1 => by have hw : IntKind.u8.wrap a = a := (by simp [IntKind.wrap, IntKind.signed, IntKind.bits]; omega); go_simp)) (Only.refl _ _) ?_
      simp only [Act.put, List.setIfInBounds_toArray, List.set_cons_zero, List.set_cons_succ]
      refine wpN_take (i := 3) (d := some 49) rfl rfl (by kernel_rfl) (by kernel_rfl) (by kernel_rfl) (fun _ _ _ h => h) (sure_value (v := .pointer (some ⟨w.heap.size + 1 + 1, 1, none⟩)) (by rfl) (fun v1 h1 => by first | rfl | go_simp)) (Only.refl _ _) ?_
      simp only [Act.put, List.setIfInBounds_toArray, List.set_cons_zero, List.set_cons_succ]
      refine wpN_take (i := 4) (d := some 50) rfl rfl (by kernel_rfl) (by kernel_rfl) (by kernel_rfl) (fun _ _ _ h => h) (sure_value (v := .int .i64 b) (by rfl) (fun v1 h1 => by have q : v1.cell? ⟨w.heap.size + 1 + 1, 1, none⟩ = some (.int .i64 b) := (K.out.n.drew.only h1 (fun e => by have e : w.heap.size + 1 + 1 = w.heap.size + 1 := e; omega)).cell 1; go_simp)) (Only.refl _ _) ?_
      simp only [Act.put, List.setIfInBounds_toArray, List.set_cons_zero, List.set_cons_succ]
      refine wpN_take (i := 5) (d := some 51) rfl rfl (by kernel_rfl) (by kernel_rfl) (by kernel_rfl) (fun _ _ _ h => h) (sure_value (v := .int .u16 b) (by rfl) (fun v1 h1 => by have hw : IntKind.u16.wrap b = b := (by simp [IntKind.wrap, IntKind.signed, IntKind.bits]; omega); go_simp)) (Only.refl _ _) ?_
      simp only [Act.put, List.setIfInBounds_toArray, List.set_cons_zero, List.set_cons_succ]
      refine wpN_take (i := 6) (d := some 52) rfl rfl (by kernel_rfl) (by kernel_rfl) (by kernel_rfl) (fun _ _ _ h => h) (sure_value (v := .pointer (some ⟨w.heap.size + 1 + 1, 2, none⟩)) (by rfl) (fun v1 h1 => by first | rfl | go_simp)) (Only.refl _ _) ?_
      simp only [Act.put, List.setIfInBounds_toArray, List.set_cons_zero, List.set_cons_succ]
      refine wpN_take (i := 7) (d := some 53) rfl rfl (by kernel_rfl) (by kernel_rfl) (by kernel_rfl) (fun _ _ _ h => h) (sure_value (v := .int .i64 d) (by rfl) (fun v1 h1 => by have q : v1.cell? ⟨w.heap.size + 1 + 1, 2, none⟩ = some (.int .i64 d) := (K.out.n.drew.only h1 (fun e => by have e : w.heap.size + 1 + 1 = w.heap.size + 1 := e; omega)).cell 2; go_simp)) (Only.refl _ _) ?_
      simp only [Act.put, List.setIfInBounds_toArray, List.set_cons_zero, List.set_cons_succ]
      refine wpN_take (i := 8) (d := some 54) rfl rfl (by kernel_rfl) (by kernel_rfl) (by kernel_rfl) (fun _ _ _ h => h) (sure_value (v := .int .u16 d) (by rfl) (fun v1 h1 => by have hw : IntKind.u16.wrap d = d := (by simp [IntKind.wrap, IntKind.signed, IntKind.bits]; omega); go_simp)) (Only.refl _ _) ?_
      simp only [Act.put, List.setIfInBounds_toArray, List.set_cons_zero, List.set_cons_succ]
      refine wpN_take (i := 9) (d := some 55) rfl rfl (by kernel_rfl) (by kernel_rfl) (by kernel_rfl) (fun _ _ _ h => h) (sure_value (v := .pointer (some ⟨w.heap.size + 1 + 1, 3, none⟩)) (by rfl) (fun v1 h1 => by first | rfl | go_simp)) (Only.refl _ _) ?_
      simp only [Act.put, List.setIfInBounds_toArray, List.set_cons_zero, List.set_cons_succ]
      refine wpN_take (i := 10) (d := some 56) rfl rfl (by kernel_rfl) (by kernel_rfl) (by kernel_rfl) (fun _ _ _ h => h) (sure_value (v := .int .i64 s) (by rfl) (fun v1 h1 => by have q : v1.cell? ⟨w.heap.size + 1 + 1, 3, none⟩ = some (.int .i64 s) := (K.out.n.drew.only h1 (fun e => by have e : w.heap.size + 1 + 1 = w.heap.size + 1 := e; omega)).cell 3; go_simp)) (Only.refl _ _) ?_
      simp only [Act.put, List.setIfInBounds_toArray, List.set_cons_zero, List.set_cons_succ]
      refine wpN_take (i := 11) (d := some 57) rfl rfl (by kernel_rfl) (by kernel_rfl) (by kernel_rfl) (fun _ _ _ h => h) (sure_value (v := .pointer (some ⟨w.heap.size + 1, 0, none⟩)) (by rfl) (fun v1 h1 => by first | rfl | go_simp)) (Only.refl _ _) ?_
      simp only [Act.put, List.setIfInBounds_toArray, List.set_cons_zero, List.set_cons_succ]
      refine wpN_store_u8 (i := 12) (by kernel_rfl) rfl (by rfl) rfl (.tmp 57) (.tmp 48) rfl (w.heap.size + 1) 0 rfl a rfl 50 _ K.out.p.drew _ rfl (Only.refl _ _) rfl ?_
      intro v0 p0 ho0 hS0
      refine wpN_take (i := 13) (d := some 58) rfl rfl (by kernel_rfl) (by kernel_rfl) (by kernel_rfl) (fun _ _ _ h => h) (sure_value (v := .pointer (some ⟨w.heap.size + 1, 1, none⟩)) (by rfl) (fun v1 h1 => by first | rfl | go_simp)) hS0 ?_
      simp only [Act.put, List.setIfInBounds_toArray, List.set_cons_zero, List.set_cons_succ]
      refine wpN_store_u16 (i := 14) (by kernel_rfl) rfl (by rfl) rfl (.tmp 58) (.tmp 51) rfl (w.heap.size + 1) 1 rfl b rfl 50 _ p0 _ rfl hS0 rfl ?_
      intro v1 p1 ho1 hS1
      refine wpN_take (i := 15) (d := some 59) rfl rfl (by kernel_rfl) (by kernel_rfl) (by kernel_rfl) (fun _ _ _ h => h) (sure_value (v := .pointer (some ⟨w.heap.size + 1, 2, none⟩)) (by rfl) (fun v1 h1 => by first | rfl | go_simp)) hS1 ?_
      simp only [Act.put, List.setIfInBounds_toArray, List.set_cons_zero, List.set_cons_succ]
      refine wpN_store_u16 (i := 16) (by kernel_rfl) rfl (by rfl) rfl (.tmp 59) (.tmp 54) rfl (w.heap.size + 1) 2 rfl d rfl 50 _ p1 _ rfl hS1 rfl ?_
      intro v2 p2 ho2 hS2
      refine wpN_take (i := 17) (d := some 60) rfl rfl (by kernel_rfl) (by kernel_rfl) (by kernel_rfl) (fun _ _ _ h => h) (sure_value (v := .pointer (some ⟨w.heap.size + 1, 3, none⟩)) (by rfl) (fun v1 h1 => by first | rfl | go_simp)) hS2 ?_
      simp only [Act.put, List.setIfInBounds_toArray, List.set_cons_zero, List.set_cons_succ]
      refine wpN_store_int (i := 18) (by kernel_rfl) rfl (by rfl) rfl (.tmp 60) (.tmp 56) rfl (w.heap.size + 1) 3 rfl s rfl 50 _ p2 _ rfl hS2 rfl ?_
      intro v3 p3 ho3 hS3
      refine wpN_done (by kernel_rfl) (fun w9 h9 => ?_) _
      have K := Lib.hid (K.out.putp (pk' := pkc a b d s none 0 0 none 0 0) (p3.only h9 (fun h => h)) (Only.undrew (only_up _ _ _ hS3 h9)))
      clear p0 p1 p2 p3 ho0 ho1 ho2 ho3 hS0 hS1 hS2 hS3 h9 y0 y1
      obtain ⟨y0, y1⟩ := K.out.box.two
      obtain ⟨r1, hr1⟩ : ∃ r1, r.byte 108 = r1 := ⟨_, rfl⟩
      have HR1 := Lib.hid hr1
      have hr1l : r1.b.length ≤ l.length := by have := byte_le r 108; rw [hr1] at this; omega
      have HX1 := Lib.hid (show ∀ q : Pkt, q.Of l → r1 = ⟨(q.ms.map tMem).flatten ++ 101 :: q.back, 0⟩ ∧ [a, b, d, s] = q.nums from fun q hq => by
        obtain ⟨h1, h2⟩ := HX.out q hq
        rw [left_end (by rw [(of_nums hq).2]; exact Nat.le_refl _)] at h1
        rw [h1, Rd.byte_laid] at hr1
        rw [List.take_of_length_le (by rw [(of_nums hq).2]; exact Nat.le_refl _)] at h2
        exact ⟨hr1.symm, h2⟩)
      clear hr1
      go_wp2_with fail
      refine (rb_v _ r r1 108 HR1.out _ K.out.rv).mono ?_
      rintro e w8 ⟨A3, c3, rfl, hx, ho⟩
      have HX2 := Lib.hid hx
      have K := Lib.hid (K.out.call ho)
      clear hx ho y0 y1
      go_wp2_with (refine wpList_store_whole rfl rfl 40 (.tmp 6) (.tmp 62) rfl rb rfl #[.slice A3 r1.b.length c3, .int .i64 r1.err] rfl 40 _ K.out.box rfl (by simp [Value.oneCell']) (by kernel_rfl) ?_; intro w9 hb9 ho9 _; have K := Lib.hid (K.out.putr HX2.out hb9 ho9); clear hb9 ho9)
      clear HN HV HX HX2
      go_loopg [] r1.b.length (fun gh W => RMs w l rb a b d s gh W)
      case atStart => exact ⟨A3, c3, r1, none, 0, [], ⟨K.out, Row.nil _ _ _ _, Row.nil _ _ _ _⟩, by simp, by simpa using hr1l, fun q hq => ⟨(HX1.out q hq).2, q.ms, rfl, (HX1.out q hq).1⟩, rfl⟩
      case round =>
        clear K HX1 HR1 hr1l hrl
        obtain ⟨A, c, r, A1, c1, ms, hq, hok, hlen, hx, hgh⟩ := hrel
        have Y := Lib.hid hq
        have OKM := Lib.hid hok
        have HX := Lib.hid hx
        have GH := Lib.hid hgh
        obtain ⟨y0, y1⟩ := hq.q.box.two
        have hsn : r.Sane := by obtain ⟨_, _, _, _, h⟩ := hq.q.rv; exact h
        have HSN := Lib.hid hsn
        have MLEN := Lib.hid hlen
        clear hq hok hx hgh
        cases hm : r.more
        · obtain ⟨r1, hr1⟩ : ∃ r1, r.byte 101 = r1 := ⟨_, rfl⟩
          obtain ⟨r2, hr2⟩ : ∃ r2, r1.byte 108 = r2 := ⟨_, rfl⟩
          have HX1 := Lib.hid (show ∀ q : Pkt, q.Of l → [a, b, d, s] = q.nums ∧ q.ms = ms ∧ r2 = ⟨(q.es.map Ent.bytes).flatten ++ [101, 101], 0⟩ from fun q hq => by
            obtain ⟨h1, ms2, h2, h3⟩ := HX.out q hq
            cases ms2 with
            | nil =>
              simp only [List.map_nil, List.flatten_nil, List.nil_append] at h3
              rw [h3, Rd.byte_laid] at hr1
              rw [← hr1, Pkt.back, Rd.byte_laid] at hr2
              exact ⟨h1, by rw [h2, List.append_nil], hr2.symm⟩
            | cons x t =>
              rw [h3, List.map_cons, List.flatten_cons, List.append_assoc, tMem_app, more_l] at hm
              cases hm)
          have hr2l : r2.b.length ≤ l.length := by have := byte_le r 101; rw [hr1] at this; have := byte_le r1 108; rw [hr2] at this; omega
          have HR1 := Lib.hid hr1
          have HR2 := Lib.hid hr2
          have HM := Lib.hid hm
          clear hr1 hr2 hm
          go_wp2_with fail
          refine (In.ref_more _ _ _ _ Y.out.q.rv).mono ?_
          rintro e w7 ⟨rfl, ho⟩
          rw [HM.out]
          have Y := Lib.hid (Y.out.call ho)
          clear y0 y1 ho
          obtain ⟨y0, y1⟩ := Y.out.q.box.two
          go_wp2_with fail
          refine (rb_v _ r r1 101 HR1.out _ Y.out.q.rv).mono ?_
          rintro e w8 ⟨A4, c4, rfl, hx, ho⟩
          have HX2 := Lib.hid hx
          have Y := Lib.hid (Y.out.call ho)
          clear hx ho
          go_wp2_with fail
          refine (rb_v _ r1 r2 108 HR2.out _ HX2.out).mono ?_
          rintro e w8 ⟨A3, c3, rfl, hx, ho⟩
          have HX2 := Lib.hid hx
          have Y := Lib.hid (Y.out.call ho)
          clear hx ho
          clear y0 y1
          go_wp2_with (refine wpList_store_whole rfl rfl 40 (.tmp 6) (.tmp 111) rfl rb rfl #[.slice A3 r2.b.length c3, .int .i64 r2.err] rfl 40 _ Y.out.q.box rfl (by simp [Value.oneCell']) (by kernel_rfl) ?_; intro w9 hb9 ho9 hs9; clear hs9; have Y := Lib.hid (Y.out.putr HX2.out hb9 ho9); obtain ⟨y0, y1⟩ := hb9.two; clear hb9 ho9)
          clear y0 y1
          go_loopg [] r2.b.length (fun gh W => REs w l rb a b d s A1 c1 ms gh W)
          case atStart => exact ⟨A3, c3, r2, none, 0, [], Y.out, by simp, by simpa using hr2l, fun q hq => ⟨(HX1.out q hq).1, (HX1.out q hq).2.1, q.es, rfl, (HX1.out q hq).2.2⟩, rfl⟩
          case round =>
            clear Y HX1 HX HR1 HR2 HX2 hr2l hlen MLEN hsn HSN GH HM
            obtain ⟨A, c, r, B1, d1, es, hq, hok, hlen, hx, hgh⟩ := hrel
            have Y := Lib.hid hq
            have OKE := Lib.hid hok
            have HX := Lib.hid hx
            have GH := Lib.hid hgh
            obtain ⟨y0, y1⟩ := hq.q.box.two
            have hsn : r.Sane := by obtain ⟨_, _, _, _, h⟩ := hq.q.rv; exact h
            have HSN := Lib.hid hsn
            clear hq hok hx hgh
            cases hm : r.more
            · have HM := Lib.hid hm
              have ALL := Lib.hid (show ∀ q : Pkt, q.Of l → (⟨a, b, d, s, ms, es⟩ : Pkt) = q from fun q hq => by
                obtain ⟨h1, h2, es2, h3, h4⟩ := HX.out q hq
                cases es2 with
                | nil =>
                  rw [List.append_nil] at h3
                  cases q
                  simp only [Pkt.nums, List.cons.injEq, and_true] at h1
                  simp only at h2 h3
                  obtain ⟨e1, e2, e3, e4⟩ := h1
                  subst e1 e2 e3 e4 h2 h3
                  rfl
                | cons x t =>
                  rw [h4, List.map_cons, List.flatten_cons, List.append_assoc, bytes_app, more_l] at hm
                  cases hm)
              have FIT := Lib.hid (show (⟨a, b, d, s, ms, es⟩ : Pkt).Fit from ⟨ha0, ha1, hb0, by simp only; omega, hd0, by simp only; omega, by simp only; omega, by simp only; omega, OKM.out, OKE.out⟩)
              clear hm
              go_wp2_with fail
              refine (In.ref_more _ _ _ _ Y.out.q.rv).mono ?_
              rintro e w7 ⟨rfl, ho⟩
              rw [HM.out]
              have Y := Lib.hid (Y.out.call ho)
              clear y0 y1 ho
              obtain ⟨c0, c1', c2', c3', c4, c5⟩ := Y.out.q.p.six
              have PA := Lib.hid (show PkAt w7 A1 c1 B1 d1 ⟨a, b, d, s, ms, es⟩ from by
                obtain ⟨A', c', hv, k1, k2, hel⟩ := Y.out.msr.el (mem_len _) (by omega) (by rw [List.length_map])
                obtain ⟨B', d', hv', k3, k4, hel'⟩ := Y.out.esr.el (ent_len _) (by omega) (by rw [List.length_map])
                injection hv with q1 _ q2
                injection hv' with q3 _ q4
                subst q1 q2 q3 q4
                exact ⟨hel.mono (fun _ _ h => h), hel'.mono (fun _ _ h => h), k1, k2, k3, k4⟩)
              go_wp2_with fail
              refine (ref_pput A1 c1 B1 d1 ⟨a, b, d, s, ms, es⟩ FIT.out _ PA.out).mono ?_
              rintro e w8 ⟨⟨sv, rfl, hs⟩, ho⟩
              have Y := Lib.hid (Y.out.call ho)
              have PA := Lib.hid (PA.out.noth ho)
              clear ho c0 c1' c2' c3' c4 c5
              obtain ⟨c0, c1', c2', c3', c4, c5⟩ := Y.out.q.p.six
              by_cases h0 : (⟨a, b, d, s, ms, es⟩ : Pkt).check = 0
              · unfold RPutAns at hs
                rw [if_pos h0] at hs
                obtain ⟨A5, c5x, rfl, hp5⟩ := hs
                have hcv := hp5.conv
                have hcv2 := (PT.out.noth Y.out.q.only).conv
                have H0 := Lib.hid h0
                rw [h0]
                obtain ⟨K1, hK1⟩ : ∃ K, (ByteArray.mk (⟨a, b, d, s, ms, es⟩ : Pkt).bytes.toArray) = K := ⟨_, rfl⟩
                obtain ⟨K2, hK2⟩ : ∃ K, (ByteArray.mk l.toArray) = K := ⟨_, rfl⟩
                rw [hK1] at hcv
                rw [hK2] at hcv2
                have HK1 := Lib.hid hK1
                have HK2 := Lib.hid hK2
                clear h0 hp5 hK1 hK2
                by_cases hb2 : (⟨a, b, d, s, ms, es⟩ : Pkt).bytes = l
                · have HB2 := Lib.hid hb2
                  have hke : (K1.toList == K2.toList) = true := by rw [ba_beq, ← HK1.out, ← HK2.out, hb2]; simp
                  clear hb2
                  go_wp2_with (refine wpList_store_whole rfl rfl 50 (.tmp 2) (.tmp 140) rfl w.heap.size rfl (pkc a b d s A1 ms.length c1 B1 es.length d1) rfl 50 _ Y.out.q.res rfl (by simp [Value.oneCell']) (by kernel_rfl) ?_; intro w9 hb9 ho9 _; obtain ⟨x0, x1, x2, x3, x4, x5⟩ := hb9.six; have ZO := Lib.hid (Y.out.q.only.trans ho9 (fun j hj hl => by have hj : j = w.heap.size := hj; omega)); have ZA := Lib.hid ho9; clear hb9 ho9)
                  refine bodyPost_ret (v := .tuple #[.agg (pkc a b d s A1 ms.length c1 B1 es.length d1), .int .i64 0]) (by simp [results, Tryd.results36, go_sem, x0, x1, x2, x3, x4, x5]) rfl ?_
                  have PF : PkAt w9 A1 c1 B1 d1 ⟨a, b, d, s, ms, es⟩ := by
                    obtain ⟨A', c', hv, k1, k2, hel⟩ := Y.out.msr.el (mem_len _) (by omega) (by rw [List.length_map])
                    obtain ⟨B', d', hv', k3, k4, hel'⟩ := Y.out.esr.el (ent_len _) (by omega) (by rw [List.length_map])
                    injection hv with q1 _ q2
                    injection hv' with q3 _ q4
                    subst q1 q2 q3 q4
                    exact ⟨(hel.only ZA.out (fun k hk e => by have e : k = w.heap.size := e; have := hk.1; omega)).mono (fun _ _ h => h), (hel'.only ZA.out (fun k hk e => by have e : k = w.heap.size := e; have := hk.1; omega)).mono (fun _ _ h => h), k1, k2, k3, k4⟩
                  exact ⟨.inl ⟨⟨a, b, d, s, ms, es⟩, ⟨FIT.out, H0.out, HB2.out⟩, A1, c1, B1, d1, rfl, PF⟩, ZO.out⟩
                · have HB2 := Lib.hid hb2
                  have hke : (K1.toList == K2.toList) = false := by
                    rw [ba_beq, ← HK1.out, ← HK2.out]
                    simp only [decide_eq_false_iff_not]
                    intro e
                    injection e with e
                    exact hb2 (by simpa using e)
                  clear hb2
                  go_wp2_with (refine wpList_store_whole rfl rfl 50 (.tmp 2) (.tmp 139) rfl w.heap.size rfl (pkc 0 0 0 0 none 0 0 none 0 0) rfl 50 _ Y.out.q.res rfl (by simp [Value.oneCell']) (by kernel_rfl) ?_; intro w9 hb9 ho9 _; obtain ⟨x0, x1, x2, x3, x4, x5⟩ := hb9.six; have ZO := Lib.hid (Y.out.q.only.trans ho9 (fun j hj hl => by have hj : j = w.heap.size := hj; omega)); clear hb9 ho9)
                  refine bodyPost_ret (v := .tuple #[.agg (pkc 0 0 0 0 none 0 0 none 0 0), .int .i64 14]) (by simp [results, Tryd.results36, go_sem, x0, x1, x2, x3, x4, x5]) rfl ?_
                  exact ⟨.inr ⟨fun q hq => HB2.out (by have e := ALL.out q hq; rw [e]; exact hq.2.2), rfl⟩, ZO.out⟩
              · have H0 := Lib.hid h0
                clear hs
                go_wp2_with (refine wpList_store_whole rfl rfl 50 (.tmp 2) (.tmp 139) rfl w.heap.size rfl (pkc 0 0 0 0 none 0 0 none 0 0) rfl 50 _ Y.out.q.res rfl (by simp [Value.oneCell']) (by kernel_rfl) ?_; intro w9 hb9 ho9 _; obtain ⟨x0, x1, x2, x3, x4, x5⟩ := hb9.six; have ZO := Lib.hid (Y.out.q.only.trans ho9 (fun j hj hl => by have hj : j = w.heap.size := hj; omega)); clear hb9 ho9)
                refine bodyPost_ret (v := .tuple #[.agg (pkc 0 0 0 0 none 0 0 none 0 0), .int .i64 14]) (by simp [results, Tryd.results36, go_sem, x0, x1, x2, x3, x4, x5]) rfl ?_
                exact ⟨.inr ⟨fun q hq => H0.out (by have e := ALL.out q hq; rw [e]; exact hq.2.1), rfl⟩, ZO.out⟩
            · have HM := Lib.hid hm
              obtain ⟨yv, z, hrd⟩ := reads_some r
              have hless := reads_less hrd hsn hm
              have HRD := Lib.hid hrd
              have YOK := Lib.hid (reads_fit hrd)
              have HX1 := Lib.hid (show ∀ q : Pkt, q.Of l → [a, b, d, s] = q.nums ∧ q.ms = ms ∧ ∃ es2, q.es = (es ++ [yv]) ++ es2 ∧ z = ⟨(es2.map Ent.bytes).flatten ++ [101, 101], 0⟩ from fun q hq => by
                obtain ⟨h1, h2, es2, h3, h4⟩ := HX.out q hq
                cases es2 with
                | nil =>
                  rw [h4, List.map_nil, List.flatten_nil, List.nil_append, more_e] at hm
                  cases hm
                | cons x t =>
                  rw [List.map_cons, List.flatten_cons, List.append_assoc] at h4
                  rw [h4] at hrd
                  obtain ⟨g1, g2⟩ := of_ent hq (e := x) (by rw [h3]; simp)
                  obtain ⟨e1, e2⟩ := reads_on _ hrd g1 g2
                  exact ⟨h1, h2, t, by rw [h3, e1]; simp, e2⟩)
              clear hm hrd
              go_wp2_with fail
              refine (In.ref_more _ _ _ _ Y.out.q.rv).mono ?_
              rintro e w7 ⟨rfl, ho⟩
              rw [HM.out]
              have Y := Lib.hid (Y.out.call ho)
              clear y0 y1 ho
              obtain ⟨y0, y1⟩ := (Y.out.q.box.only ((Only.refl Noth w7).alloc (.cells #[.string ⟨#[]⟩, .int .i64 0, .int .u16 0, .string ⟨#[]⟩, .int .i64 0] 64)) (fun h => h)).two
              have X := Lib.hid (Y.out.enter 64 #[.string ⟨#[]⟩, .int .i64 0, .int .u16 0, .string ⟨#[]⟩, .int .i64 0])
              go_wp2_with fail
              refine (ref_eread (Old w) _ r yv z HRD.out _ X.out.q.rv).mono ?_
              rintro e w8 ⟨⟨A3, c3, rfl, hx⟩, ho⟩
              have HX2 := Lib.hid hx
              have X := Lib.hid (X.out.call ho)
              clear hx ho y0 y1
              go_wp2_with (first | (refine wpList_store_whole rfl rfl 40 (.tmp 6) (.tmp 117) rfl rb rfl #[.slice A3 z.b.length c3, .int .i64 z.err] rfl 40 _ X.out.q.box rfl (by simp [Value.oneCell']) (by kernel_rfl) ?_; intro w9 hb9 ho9 hs9; clear hs9; have X := Lib.hid (X.out.putr HX2.out hb9 ho9); obtain ⟨y0, y1⟩ := hb9.two; clear hb9 ho9) | (refine wpList_store_whole rfl rfl 64 (.tmp 10) (.tmp 118) rfl w7.heap.size rfl #[.string yv.key, .int .i64 yv.time, .int .u16 yv.org, .string yv.val, .int .i64 yv.til] rfl 64 _ X.out.x rfl (by simp [Value.oneCell']) (by kernel_rfl) ?_; intro wA hb9 ho9 hs9; clear hs9; have X := Lib.hid (X.out.putx hb9 ho9); obtain ⟨e0, e1, e2, e3, e4⟩ := hb9.five; have c5 : wA.cell? ⟨w.heap.size + 1, 5, none⟩ = some (.slice B1 es.length d1) := X.out.q.p.cell 5; have YA := Lib.hid (X.out.leave.call ((Only.refl Noth wA).alloc (.cells #[.string yv.key, .int .i64 yv.time, .int .u16 yv.org, .string yv.val, .int .i64 yv.til] 64))); have SV := Lib.hid (((Hld.new wA 64 #[.string yv.key, .int .i64 yv.time, .int .u16 yv.org, .string yv.val, .int .i64 yv.til]).src 5 rfl).regroup (by omega)); clear hb9 ho9) | (at_builtin; refine wpList_append_row _ rfl (.tmp 120) (.tmp 122) 48 rfl 64 i1 (.agg #[.string ⟨#[]⟩, .int .i64 0, .int .u16 0, .string ⟨#[]⟩, .int .i64 0]) 5 56 Tryd.underlying48 hj hy0 hy1 hy2 rfl (OwnB B1 d1) _ _ es.length _ rfl (YA.out.esr.tight.1) (some ⟨wA.heap.size, 0, none⟩) 1 1 [.string yv.key, .int .i64 yv.time, .int .u16 yv.org, .string yv.val, .int .i64 yv.til] rfl (SV.out) (by intro u hu; simp at hu; rcases hu with rfl | rfl | rfl | rfl | rfl <;> rfl) (by simp only [maxLen]; omega) (by omega) ?_; intro v' wB hrow ho _; obtain ⟨B2, d2, hv'⟩ := hrow.shape; subst hv'; have HR := Lib.hid hrow; have HS := Lib.hid ho; have BX := Lib.hid (YA.out.q.p.only ho (fun e => by have := (YA.out.esr.tight.2 _ e).1.1; omega)); clear hrow ho) | (refine wpList_store_ent rfl rfl (.tmp 124) (.tmp 123) rfl (w.heap.size + 1) 5 rfl B2 _ d2 rfl 50 _ BX.out (.slice B1 es.length d1) rfl ?_; intro wC hb2 ho2; have YC := Lib.hid (YA.out.adde HR.out HS.out hb2 ho2); clear hb2 ho2))
              go_roundg z.b.length
              case rel => exact ⟨A3, c3, z, B2, d2, es ++ [yv], YC.out, fun e he => by rcases List.mem_append.1 he with h | h; exact OKE.out e h; simp at h; subst h; exact YOK.out, by rw [List.length_append]; simp only [List.length_cons, List.length_nil]; omega, HX1.out, rfl⟩
              case measure => have := GH.out; omega
        · obtain ⟨r1, hr1⟩ : ∃ r1, r.byte 108 = r1 := ⟨_, rfl⟩
          have HL := Lib.hid (show r1.b.length < r.b.length by rw [← hr1]; exact byte_less hsn hm 108)
          have HR1 := Lib.hid hr1
          have HM := Lib.hid hm
          have HX1 := Lib.hid (show ∀ q : Pkt, q.Of l → [a, b, d, s] = q.nums ∧ ∃ x ms2, q.ms = ms ++ x :: ms2 ∧ ([] : List Int) = x.nums.take 0 ∧ r1 = left x.nums 0 (101 :: ((ms2.map tMem).flatten ++ 101 :: q.back)) from fun q hq => by
            obtain ⟨h1, ms2, h2, h3⟩ := HX.out q hq
            cases ms2 with
            | nil =>
              rw [h3, List.map_nil, List.flatten_nil, List.nil_append, more_e] at hm
              cases hm
            | cons x t =>
              rw [List.map_cons, List.flatten_cons, List.append_assoc] at h3
              rw [h3, mem_left] at hr1
              exact ⟨h1, x, t, h2, rfl, hr1.symm⟩)
          clear hr1 hm
          go_wp2_with fail
          refine (In.ref_more _ _ _ _ Y.out.q.rv).mono ?_
          rintro e w7 ⟨rfl, ho⟩
          rw [HM.out]
          have Y := Lib.hid (Y.out.call ho)
          clear y0 y1 ho
          obtain ⟨y0, y1⟩ := (Y.out.q.box.only ((Only.refl Noth w7).alloc (.cells #[.int .i64 0, .int .i64 0, .int .i64 0] 99)) (fun h => h)).two
          have X := Lib.hid (Y.out.enter 99 #[.int .i64 0, .int .i64 0, .int .i64 0])
          go_wp2_with fail
          refine (rb_v _ r r1 108 HR1.out _ X.out.q.rv).mono ?_
          rintro e w8 ⟨A3, c3, rfl, hx, ho⟩
          have HX2 := Lib.hid hx
          have X := Lib.hid (X.out.call ho)
          clear hx ho
          clear y0 y1
          go_wp2_with (refine wpList_store_whole rfl rfl 40 (.tmp 6) (.tmp 66) rfl rb rfl #[.slice A3 r1.b.length c3, .int .i64 r1.err] rfl 40 _ X.out.q.box rfl (by simp [Value.oneCell']) (by kernel_rfl) ?_; intro w9 hb9 ho9 hs9; clear hs9; have X := Lib.hid (X.out.putr HX2.out hb9 ho9); obtain ⟨y0, y1⟩ := hb9.two; clear hb9 ho9)
          clear y0 y1
          go_loopw [9] (fun u W => RM3 w l rb w7.heap.size a b d s A1 c1 ms r.b.length u W) (fun u _ => 3 - (RowKit.intOf u).toNat)
          case atStart => exact ⟨0, A3, c3, r1, [], by omega, rfl, rfl, X.out, fun j v hj => by simp at hj, HL.out, HX1.out⟩
          case round =>
            clear X HX1 HX HR1 HX2
            obtain ⟨k, Ar, cr, rr, vs, hk, rfl, hvl, hq, hn, hrl, hx⟩ := hrel
            have X := Lib.hid hq
            have HV := Lib.hid hvl
            have HN := Lib.hid hn
            have HX := Lib.hid hx
            obtain ⟨y0, y1⟩ := hq.q.box.two
            have hsn2 : rr.Sane := by obtain ⟨_, _, _, _, h⟩ := hq.q.rv; exact h
            clear hq hvl hn hx
            by_cases hlt : k < 3
            · obtain ⟨r', v, hrv⟩ : ∃ r' v, rr.int = (r', v) := ⟨_, _, rfl⟩
              have HRV := Lib.hid hrv
              have hri := int_range rr
              rw [hrv] at hri
              obtain ⟨hv0, hv1⟩ := hri
              have hr2 : r'.b.length < r.b.length := by have := int_le (r := rr) hsn2; rw [hrv] at this; simp only at this; omega
              have hk0 : (0 : Int) ≤ k := by omega
              have hk4 : (k : Int) < 3 := by omega
              have STEP := Lib.hid (show ∀ q : Pkt, q.Of l → (0 ≤ v ∧ (k + 1 < 3 → v ≤ 255)) ∧ [a, b, d, s] = q.nums ∧ ∃ x ms2, q.ms = ms ++ x :: ms2 ∧ vs ++ [v] = x.nums.take (k + 1) ∧ r' = left x.nums (k + 1) (101 :: ((ms2.map tMem).flatten ++ 101 :: q.back)) from fun q hq => by
                obtain ⟨h1, x, t, h2, h3, h4⟩ := HX.out q hq
                obtain ⟨g1, g2, g3⟩ := nums_step (of_mnums hq (m := x) (by rw [h2]; simp)) (by simp only [Mem.nums, List.length_cons, List.length_nil]; omega) h4 h3 hrv
                exact ⟨g1, h1, x, t, h2, g3, g2⟩)
              clear hrv
              go_wp2_with fail
              refine (ri_v _ rr r' v HRV.out _ X.out.q.rv).mono ?_
              rintro e w8 ⟨A3, c3, rfl, hx, ho⟩
              have HX2 := Lib.hid hx
              have X := Lib.hid (X.out.call ho)
              clear hx ho
              clear y0 y1
              by_cases hv : v < 0
              · go_wp2_with (first | (refine wpList_store_whole rfl rfl 40 (.tmp 6) (.tmp 75) rfl rb rfl #[.slice A3 r'.b.length c3, .int .i64 r'.err] rfl 40 _ X.out.q.box rfl (by simp [Value.oneCell']) (by kernel_rfl) ?_; intro w9 hb9 ho9 hs9; clear hs9; have X := Lib.hid (X.out.putr HX2.out hb9 ho9); obtain ⟨y0, y1⟩ := hb9.two; clear hb9 ho9) | (refine wpList_store_i64 rfl rfl (.tmp 77) (.tmp 76) rfl w7.heap.size k rfl v rfl 99 _ X.out.x _ (arr3_at HV.out hlt) ?_; intro w9 hb9 ho9; have hb8 := hb9; rw [arr3_set v HV.out hlt] at hb8; have X := Lib.hid (X.out.putx hb8 ho9); have nk : w9.cell? ⟨w7.heap.size, k, none⟩ = some (.int .i64 v) := (hb8.cell k).trans (arr3_got v HV.out hlt); clear hb8 hb9 ho9) | (refine wpList_store_whole rfl rfl 50 (.tmp 2) (.tmp 92) rfl w.heap.size rfl (pkc 0 0 0 0 none 0 0 none 0 0) rfl 50 _ X.out.q.res rfl (by simp [Value.oneCell']) (by kernel_rfl) ?_; intro w9 hb9 ho9 _; obtain ⟨x0, x1, x2, x3, x4, x5⟩ := hb9.six; have ZO := Lib.hid (X.out.q.only.trans ho9 (fun j hj hl => by have hj : j = w.heap.size := hj; omega)); clear hb9 ho9))
                refine bodyPost_ret (v := .tuple #[.agg (pkc 0 0 0 0 none 0 0 none 0 0), .int .i64 14]) (by simp [results, Tryd.results36, go_sem, x0, x1, x2, x3, x4, x5]) rfl ?_
                exact ⟨.inr ⟨fun q hq => by have := (STEP.out q hq).1.1; omega, rfl⟩, ZO.out⟩
              · by_cases hk3 : k < 2
                · have hk3' : (k : Int) < 2 := by omega
                  by_cases hv2 : 255 < v
                  · go_wp2_with (first | (refine wpList_store_whole rfl rfl 40 (.tmp 6) (.tmp 75) rfl rb rfl #[.slice A3 r'.b.length c3, .int .i64 r'.err] rfl 40 _ X.out.q.box rfl (by simp [Value.oneCell']) (by kernel_rfl) ?_; intro w9 hb9 ho9 hs9; clear hs9; have X := Lib.hid (X.out.putr HX2.out hb9 ho9); obtain ⟨y0, y1⟩ := hb9.two; clear hb9 ho9) | (refine wpList_store_i64 rfl rfl (.tmp 77) (.tmp 76) rfl w7.heap.size k rfl v rfl 99 _ X.out.x _ (arr3_at HV.out hlt) ?_; intro w9 hb9 ho9; have hb8 := hb9; rw [arr3_set v HV.out hlt] at hb8; have X := Lib.hid (X.out.putx hb8 ho9); have nk : w9.cell? ⟨w7.heap.size, k, none⟩ = some (.int .i64 v) := (hb8.cell k).trans (arr3_got v HV.out hlt); clear hb8 hb9 ho9) | (refine wpList_store_whole rfl rfl 50 (.tmp 2) (.tmp 92) rfl w.heap.size rfl (pkc 0 0 0 0 none 0 0 none 0 0) rfl 50 _ X.out.q.res rfl (by simp [Value.oneCell']) (by kernel_rfl) ?_; intro w9 hb9 ho9 _; obtain ⟨x0, x1, x2, x3, x4, x5⟩ := hb9.six; have ZO := Lib.hid (X.out.q.only.trans ho9 (fun j hj hl => by have hj : j = w.heap.size := hj; omega)); clear hb9 ho9))
                    refine bodyPost_ret (v := .tuple #[.agg (pkc 0 0 0 0 none 0 0 none 0 0), .int .i64 14]) (by simp [results, Tryd.results36, go_sem, x0, x1, x2, x3, x4, x5]) rfl ?_
                    exact ⟨.inr ⟨fun q hq => by have := (STEP.out q hq).1.2 (by omega); omega, rfl⟩, ZO.out⟩
                  · go_wp2_with (first | (refine wpList_store_whole rfl rfl 40 (.tmp 6) (.tmp 75) rfl rb rfl #[.slice A3 r'.b.length c3, .int .i64 r'.err] rfl 40 _ X.out.q.box rfl (by simp [Value.oneCell']) (by kernel_rfl) ?_; intro w9 hb9 ho9 hs9; clear hs9; have X := Lib.hid (X.out.putr HX2.out hb9 ho9); obtain ⟨y0, y1⟩ := hb9.two; clear hb9 ho9) | (refine wpList_store_i64 rfl rfl (.tmp 77) (.tmp 76) rfl w7.heap.size k rfl v rfl 99 _ X.out.x _ (arr3_at HV.out hlt) ?_; intro w9 hb9 ho9; have hb8 := hb9; rw [arr3_set v HV.out hlt] at hb8; have X := Lib.hid (X.out.putx hb8 ho9); have nk : w9.cell? ⟨w7.heap.size, k, none⟩ = some (.int .i64 v) := (hb8.cell k).trans (arr3_got v HV.out hlt); clear hb8 hb9 ho9))
                    go_roundw
                    case rel => exact ⟨k + 1, A3, c3, r', vs ++ [v], by omega, by go_num, by simp [HV.out], X.out, HN.out.snoc HV.out (by omega) hv1 (by omega), hr2, fun q hq => (STEP.out q hq).2⟩
                    case measure => simp [RowKit.intOf]; omega
                · have hk3' : ¬ (k : Int) < 2 := by omega
                  go_wp2_with (first | (refine wpList_store_whole rfl rfl 40 (.tmp 6) (.tmp 75) rfl rb rfl #[.slice A3 r'.b.length c3, .int .i64 r'.err] rfl 40 _ X.out.q.box rfl (by simp [Value.oneCell']) (by kernel_rfl) ?_; intro w9 hb9 ho9 hs9; clear hs9; have X := Lib.hid (X.out.putr HX2.out hb9 ho9); obtain ⟨y0, y1⟩ := hb9.two; clear hb9 ho9) | (refine wpList_store_i64 rfl rfl (.tmp 77) (.tmp 76) rfl w7.heap.size k rfl v rfl 99 _ X.out.x _ (arr3_at HV.out hlt) ?_; intro w9 hb9 ho9; have hb8 := hb9; rw [arr3_set v HV.out hlt] at hb8; have X := Lib.hid (X.out.putx hb8 ho9); have nk : w9.cell? ⟨w7.heap.size, k, none⟩ = some (.int .i64 v) := (hb8.cell k).trans (arr3_got v HV.out hlt); clear hb8 hb9 ho9))
                  go_roundw
                  case rel => exact ⟨k + 1, A3, c3, r', vs ++ [v], by omega, by go_num, by simp [HV.out], X.out, HN.out.snoc HV.out (by omega) hv1 (by omega), hr2, fun q hq => (STEP.out q hq).2⟩
                  case measure => simp [RowKit.intOf]; omega
            · obtain rfl : k = 3 := by omega
              obtain ⟨n1, n2, n3, rfl⟩ : ∃ n1 n2 n3, vs = [n1, n2, n3] := by
                have := HV.out
                match vs, this with
                | [a, b, d], _ => exact ⟨a, b, d, rfl⟩
              obtain ⟨m10, -, m11⟩ := HN.out 0 n1 rfl
              obtain ⟨m20, -, m21⟩ := HN.out 1 n2 rfl
              obtain ⟨m30, m31, -⟩ := HN.out 2 n3 rfl
              have m11 := m11 (by decide)
              have m21 := m21 (by decide)
              have hw1 : IntKind.u16.wrap n1 = n1 := by simp [IntKind.wrap, IntKind.signed, IntKind.bits]; omega
              have hw2 : IntKind.u8.wrap n2 = n2 := by simp [IntKind.wrap, IntKind.signed, IntKind.bits]; omega
              obtain ⟨r2, hr2⟩ : ∃ r2, rr.byte 101 = r2 := ⟨_, rfl⟩
              have HR2 := Lib.hid hr2
              have hl2 : r2.b.length < r.b.length := by have := byte_le rr 101; rw [hr2] at this; omega
              have HX1 := Lib.hid (show ∀ q : Pkt, q.Of l → [a, b, d, s] = q.nums ∧ ∃ ms2, q.ms = (ms ++ [⟨n1, n2, n3⟩]) ++ ms2 ∧ r2 = ⟨(ms2.map tMem).flatten ++ 101 :: q.back, 0⟩ from fun q hq => by
                obtain ⟨h1, x, t, h2, h3, h4⟩ := HX.out q hq
                rw [left_end (by simp [Mem.nums])] at h4
                rw [h4, Rd.byte_laid] at hr2
                cases x
                simp only [Mem.nums, List.take_succ_cons, List.take_zero, List.cons.injEq, and_true] at h3
                obtain ⟨g1, g2, g3⟩ := h3
                subst g1 g2 g3
                exact ⟨h1, t, by rw [h2]; simp, hr2.symm⟩)
              clear hr2
              go_wp2_with fail
              refine (rb_v _ rr r2 101 HR2.out _ X.out.q.rv).mono ?_
              rintro e w8 ⟨A3, c3, rfl, hx, ho⟩
              have HX2 := Lib.hid hx
              have X := Lib.hid (X.out.call ho)
              clear hx ho
              clear y0 y1
              go_wp2_with (first | (refine wpList_store_whole rfl rfl 40 (.tmp 6) (.tmp 94) rfl rb rfl #[.slice A3 r2.b.length c3, .int .i64 r2.err] rfl 40 _ X.out.q.box rfl (by simp [Value.oneCell']) (by kernel_rfl) ?_; intro wA hb9 ho9 hs9; clear hs9; have X := Lib.hid (X.out.putr HX2.out hb9 ho9); have m0 : wA.cell? ⟨w7.heap.size, 0, none⟩ = some (.int .i64 n1) := X.out.x.cell 0; have m1 : wA.cell? ⟨w7.heap.size, 1, none⟩ = some (.int .i64 n2) := X.out.x.cell 1; have m2 : wA.cell? ⟨w7.heap.size, 2, none⟩ = some (.int .i64 n3) := X.out.x.cell 2; have c4 : wA.cell? ⟨w.heap.size + 1, 4, none⟩ = some (.slice A1 ms.length c1) := X.out.q.p.cell 4; have YA := Lib.hid (X.out.leave.call ((Only.refl Noth wA).alloc (.cells #[.int .u16 n1, .int .u8 n2, .int .i64 n3] 68))); have SV := Lib.hid (((Hld.new wA 68 #[.int .u16 n1, .int .u8 n2, .int .i64 n3]).src 3 rfl).regroup (by omega)); clear hb9 ho9) | (at_builtin; refine wpList_append_row _ rfl (.tmp 96) (.tmp 106) 47 rfl 68 i0 (.agg #[.int .u16 0, .int .u8 0, .int .i64 0]) 3 16 Tryd.underlying47 hi hz0 hz1 hz2 rfl (OwnB A1 c1) _ _ ms.length _ rfl (YA.out.msr.tight.1) (some ⟨wA.heap.size, 0, none⟩) 1 1 [.int .u16 n1, .int .u8 n2, .int .i64 n3] rfl (SV.out) (by intro u hu; simp at hu; rcases hu with rfl | rfl | rfl <;> rfl) (by simp only [maxLen]; omega) (by omega) ?_; intro v' wB hrow ho _; obtain ⟨A9, c9, hv'⟩ := hrow.shape; subst hv'; have HRW := Lib.hid hrow; have HS := Lib.hid ho; have BX := Lib.hid (YA.out.q.p.only ho (fun e => by have := (YA.out.msr.tight.2 _ e).1.1; omega)); clear hrow ho) | (refine wpList_store_mem rfl rfl (.tmp 108) (.tmp 107) rfl (w.heap.size + 1) 4 rfl A9 _ c9 rfl 50 _ BX.out (.slice A1 ms.length c1) rfl ?_; intro wC hb2 ho2; have YC := Lib.hid (YA.out.addm (m := ⟨n1, n2, n3⟩) HRW.out HS.out hb2 ho2); clear hb2 ho2))
              go_roundg r2.b.length
              case rel => exact ⟨A3, c3, r2, A9, c9, ms ++ [⟨n1, n2, n3⟩], YC.out, fun e he => by rcases List.mem_append.1 he with h | h; exact OKM.out e h; simp at h; subst h; exact ⟨m10, by simp only; omega, m20, m21, by simp only; omega, m31⟩, by rw [List.length_append]; simp only [List.length_cons, List.length_nil]; omega, HX1.out, rfl⟩
              case measure => have := GH.out; omega
end Go.Proofs.YtjdgmnaemopfdaaDoor
