/- Package packet: lists of members, of entries. -/
import Derived.Test.YtjdgmnaemopfdaaDoorPkM
namespace Go.Proofs.YtjdgmnaemopfdaaDoor
open Go.RowKit Go.Lib
set_option linter.unusedVariables false
set_option maxRecDepth 100000
attribute [local go_sem ↓] Go.wp_at_zero Go.wp_at_succ

/-- Bytes stored into a row of bytes. -/
theorem wpList_store_b8 {ops : Array Oper} {rest : List Oper} {o : Oper} {a : Act} {w : World} {Q : Exit → Act → World → Prop} (hgd : o.guard = none) (hdst : o.dst = none) (x y : Operand) (ho : o.op = .store 23 x y)
    (g i : Nat) (hx : a.eval x = .pointer (some ⟨g, i, none⟩)) (A : Option Addr) (n c : Nat) (hy : a.eval y = .slice A n c) (t : TypeId) (cs : Array Value) (hg : Hld w g t cs) (u : Value) (hu : cs[i]? = some u)
    (h : ∀ w', Hld w' g t (cs.setIfInBounds i (.slice A n c)) → Only (fun k => k = g) w w' → wpList Tryd.prog ops Q rest a w') : wpList Tryd.prog ops Q (o :: rest) a w := by
  refine wpList_plain hgd fun K hK => ?_
  have c0 := (hg.cell i).trans hu
  have f0 := hg.free i
  have := hK _ _ (h _ (hg.set_ i (.slice A n c)) ((Only.refl (fun k => k = g) w).setCell (p := ⟨g, i, none⟩) (fun _ => rfl) _))
  have hp : ∀ v, a.put none v = a := fun _ => rfl
  unfold Oper.wp execOp
  simp only [ho, hx, hy]
  go_simp
  simpa [Oper.upon, hdst, hp] using this
/-- A row of slices, the first ones laid. -/
def rowOf (n : Nat) (vs : List Value) : Array Value := (vs ++ List.replicate (n - vs.length) (Value.slice none 0 0)).toArray
theorem rowOf_get {n : Nat} {vs : List Value} (h : vs.length < n) : (rowOf n vs)[vs.length]? = some (.slice none 0 0) := by
  simp only [rowOf, List.getElem?_toArray]
  rw [List.getElem?_append_right (Nat.le_refl _), Nat.sub_self, List.getElem?_replicate]
  rw [if_pos (by omega)]
theorem rowOf_set {n : Nat} {vs : List Value} (v : Value) (h : vs.length < n) : (rowOf n vs).setIfInBounds vs.length v = rowOf n (vs ++ [v]) := by
  apply Array.ext'
  simp only [rowOf, List.setIfInBounds_toArray]
  obtain ⟨m, hm⟩ : ∃ m, n - vs.length = m + 1 := ⟨n - vs.length - 1, by omega⟩
  rw [hm, List.replicate_succ, List.length_append, List.length_singleton, show n - (vs.length + 1) = m by omega, List.set_append_right _ _ (Nat.le_refl _), Nat.sub_self]
  simp
theorem rowOf_size {n : Nat} {vs : List Value} (h : vs.length ≤ n) : (rowOf n vs).size = n := by
  simp [rowOf]; omega
theorem rowOf_full {n : Nat} {vs : List Value} (h : vs.length = n) : (rowOf n vs).toList = vs := by
  simp [rowOf, h]
theorem made_row (n : Nat) : madeCells #[Value.slice none 0 0] (n * 1) = rowOf n [] := by
  apply Array.ext
  · simp [madeCells, rowOf]
  · intro i h1 h2
    simp [madeCells, rowOf, Nat.mod_one]
theorem b8sinfo : (Tryd.prog.info? 23).map (fun i => (i.zero, i.size, i.bytes)) = some (some (.slice none 0 0), 1, 24) := by kernel_rfl
theorem make_row (n : Nat) (hn : n ≤ 1000000) (w : World) : (Instr.makeSlice 22 (.int .i64 n) (.int .i64 n)).run Tryd.prog w = .ok (.slice (some ⟨w.heap.size, 0, none⟩) n n) (w.alloc (.cells (rowOf n []) 23)) := by
  obtain ⟨i0, hi, hz0, hz1, hz2⟩ := info_parts b8sinfo
  have := run_makeSlice (P := Tryd.prog) w 22 23 i0 (.slice none 0 0) Tryd.underlying22 hi hz0 .i64 .i64 n n (by omega) (by omega) (by rw [hz1]; simp; omega) (by rw [hz2]; omega) (by omega)
  simp only [Int.toNat_natCast, hz1] at this
  rw [this, show (Value.slice none 0 0).cells = #[Value.slice none 0 0] from rfl, made_row]
theorem entry_put_b (x : Ent) (h : x.Ok) (hs : x.key.size + x.val.size ≤ 140737488355000) (w : World) (ht : Tab w) : Calls Tryd.prog 64 #[.agg #[.string x.key, .int .i64 x.time, .int .u16 x.org, .string x.val, .int .i64 x.til]] w (GivenP w x.bytes) :=
  given_p (entry_put x.key x.val x.time x.org x.til h.t0 h.t1 h.o0 h.o1 h.u0 h.u1 hs w ht)
/-- At the loop's head of a list. -/
def ListAt (w : World) (g n : Nat) (ls : List (List UInt8)) (i : Value) (W : World) : Prop :=
  ∃ (k : Nat) (vs : List Value), k ≤ n ∧ i = .int .i64 k ∧ Parts W vs (ls.take k) ∧ Hld W g 23 (rowOf n vs) ∧ Only Noth w W
theorem Parts.off {w w' : World} {vs : List Value} {ls : List (List UInt8)} {b : Nat} {t : TypeId} {cs : Array Value} (h : Parts w vs ls) (hb : Hld w b t cs) (hc : NoByte cs) (ho : Only (At b) w w') : Parts w' vs ls :=
  ⟨h.1, fun i l hl => by
    obtain ⟨v, hv, hp⟩ := h.2 i l hl
    exact ⟨v, hv, hp.off hb hc ho⟩⟩
theorem rowOf_noByte {w : World} {vs : List Value} {ls : List (List UInt8)} (n : Nat) (h : Parts w vs ls) : NoByte (rowOf n vs) := by
  intro i m hi
  simp only [rowOf, List.getElem?_toArray] at hi
  rw [List.getElem?_append] at hi
  split at hi
  · rename_i hlt
    obtain ⟨l, hl⟩ : ∃ l, ls[i]? = some l := ⟨_, List.getElem?_eq_getElem (by rw [← h.1]; exact hlt)⟩
    obtain ⟨v, hv, A, c, rfl, _⟩ := h.2 i l hl
    rw [hv] at hi
    cases hi
  · rw [List.getElem?_replicate] at hi
    split at hi <;> cases hi
set_option maxHeartbeats 4000000 in
theorem pk_list_mem (A : Option Addr) (n c : Nat) (xs : List Mem) (hlen : xs.length = n) (hc : n ≤ c) (hc2 : c ≤ 9223372036854775807) (hn : n ≤ 1000000) (w : World) (hel : ElAt w (fun k => k < w.heap.size) 3 A (xs.map Mem.cl)) (hok : ∀ x ∈ xs, Mem.Ok x) (hb : (xs.map tMem).flatten.length + 2 ≤ 140737488355328) (ht : Tab w) :
    Calls Tryd.prog 79 #[.slice A n c, .func (.func 38) #[] #[]] w (GivenP w (tList (xs.map tMem))) := by
  have EL := Lib.hid hel
  have OK := Lib.hid hok
  have HB := Lib.hid hb
  have TB := Lib.hid ht
  have HL := Lib.hid hlen
  have hn0 : (0 : Int) ≤ n := by omega
  clear hel hok hb ht hlen
  go_enter Tryd.func79, Tryd.ntmps79
  have hmk := make_row n hn
  go_wp2_with fail
  clear hmk
  have ON0 := Lib.hid ((Only.refl Noth w).alloc (.cells (rowOf n []) 23))
  have HB0 := Lib.hid (Hld.new w 23 (rowOf n []))
  go_loopw [13] (fun i W => ListAt w w.heap.size n (xs.map tMem) i W) (fun i _ => n - (RowKit.intOf i).toNat)
  case atStart => exact ⟨0, [], Nat.zero_le _, rfl, Parts.nil _, HB0.out, ON0.out⟩
  case round =>
    obtain ⟨k, vs, hk, rfl, hp, hh, ho⟩ := hrel
    have PP := Lib.hid hp
    have HH := Lib.hid hh
    have ON := Lib.hid ho
    have hvs : vs.length = k := by rw [hp.1, List.length_take, List.length_map, HL.out]; omega
    have VS := Lib.hid hvs
    clear hp hh ho hvs
    by_cases hlt : k < n
    · obtain ⟨x, hx⟩ : ∃ x, xs[k]? = some x := ⟨_, List.getElem?_eq_getElem (by rw [HL.out]; exact hlt)⟩
      have OKX := Lib.hid (OK.out x (List.mem_of_getElem? hx))
      have HX := Lib.hid hx
      obtain ⟨b, o, rfl, hbw, hbl, e0, e1, e2⟩ := (EL.out.noth ON.out).mem hx
      have hb0 : (0 : Int) ≤ k := by omega
      have hb1 : (k : Int) < n := by omega
      clear hx hbw hbl
      go_wp2_with fail
      refine (pk_member x OKX.out _ rfl _ (TB.out.noth ON.out |>.noth ((Only.refl _ _).alloc _))).mono ?_
      rintro e w1 ⟨A1, c1, rfl, hp1, ho1⟩
      have ho2 := (((Only.refl Noth wr).alloc (.cells #[.int .u16 x.node, .int .u8 x.st, .int .i64 x.inc] 68))).tr ho1
      have PP1 := Lib.hid (PP.out.noth ho2)
      have P1 := Lib.hid hp1
      have HH1 := Lib.hid (HH.out.only ho2 (fun h => h))
      have ON1 := Lib.hid (ON.out.tr ho2)
      clear hp1 ho1 ho2 e0 e1 e2
      go_wp2_with (refine wpList_store_b8 rfl rfl (.tmp 23) (.tmp 22) rfl w.heap.size k rfl A1 _ c1 rfl 23 _ HH1.out (.slice none 0 0) (by have := rowOf_get (n := n) (vs := vs) (by rw [VS.out]; exact hlt); rw [VS.out] at this; exact this) ?_; intro w2 hh2 ho2; have HH2 := Lib.hid hh2; have PP2 := Lib.hid ((PP1.out.snoc P1.out).off HH1.out (rowOf_noByte n PP1.out) ho2); have ON2 := Lib.hid (ON1.out.trans ho2 (fun j hj hl => by have : j = w.heap.size := hj; omega)); clear hh2 ho2)
      go_roundw
      case rel =>
        refine ⟨k + 1, vs ++ [.slice A1 (tMem x).length c1], by omega, by go_num, ?_, ?_, ON2.out⟩
        · have := PP2.out
          rw [List.take_add_one, List.getElem?_map, HX.out]
          exact this
        · have := HH2.out
          have e := rowOf_set (n := n) (vs := vs) (.slice A1 (tMem x).length c1) (by rw [VS.out]; exact hlt)
          rw [VS.out] at e
          rw [e] at this
          exact this
      case measure => simp [RowKit.intOf]; omega
    · obtain rfl : k = n := by omega
      have hpt := PP.out
      rw [List.take_of_length_le (by rw [List.length_map, HL.out]; exact Nat.le_refl _)] at hpt
      have hsrc := HH.out.src k (rowOf_size (by rw [VS.out]; exact Nat.le_refl _))
      rw [rowOf_full VS.out] at hsrc
      have hlm : (xs.map tMem).length = k := by rw [List.length_map, HL.out]
      have LS := Lib.hid (ben_list (some ⟨w.heap.size, 0, none⟩) k vs (xs.map tMem) wr (by rw [hlm]; exact hsrc) hpt (by rw [hlm]; exact Nat.le_refl _) (by omega) HB.out)
      rw [hlm] at LS
      clear hpt hsrc hlm
      go_wp2_with fail
      refine LS.out.mono ?_
      rintro e w3 hg
      obtain ⟨A3, c3, rfl, hp3, ho3⟩ := hg.part
      have P3 := Lib.hid hp3
      have ON3 := Lib.hid (ON.out.tr ho3)
      clear hg hp3 ho3
      go_wp2
      go_ret
      exact ⟨A3, c3, rfl, P3.out, ON3.out⟩
set_option maxHeartbeats 4000000 in
theorem pk_list_ent (A : Option Addr) (n c : Nat) (xs : List Ent) (hlen : xs.length = n) (hc : n ≤ c) (hc2 : c ≤ 9223372036854775807) (hn : n ≤ 1000000) (w : World) (hel : ElAt w (fun k => k < w.heap.size) 5 A (xs.map Ent.cl)) (hok : ∀ x ∈ xs, (fun x => x.Ok ∧ x.key.size + x.val.size ≤ 140737488355000) x) (hb : (xs.map Ent.bytes).flatten.length + 2 ≤ 140737488355328) (ht : Tab w) :
    Calls Tryd.prog 80 #[.slice A n c, .func (.func 64) #[] #[]] w (GivenP w (tList (xs.map Ent.bytes))) := by
  have EL := Lib.hid hel
  have OK := Lib.hid hok
  have HB := Lib.hid hb
  have TB := Lib.hid ht
  have HL := Lib.hid hlen
  have hn0 : (0 : Int) ≤ n := by omega
  clear hel hok hb ht hlen
  go_enter Tryd.func80, Tryd.ntmps80
  have hmk := make_row n hn
  go_wp2_with fail
  clear hmk
  have ON0 := Lib.hid ((Only.refl Noth w).alloc (.cells (rowOf n []) 23))
  have HB0 := Lib.hid (Hld.new w 23 (rowOf n []))
  go_loopw [13] (fun i W => ListAt w w.heap.size n (xs.map Ent.bytes) i W) (fun i _ => n - (RowKit.intOf i).toNat)
  case atStart => exact ⟨0, [], Nat.zero_le _, rfl, Parts.nil _, HB0.out, ON0.out⟩
  case round =>
    obtain ⟨k, vs, hk, rfl, hp, hh, ho⟩ := hrel
    have PP := Lib.hid hp
    have HH := Lib.hid hh
    have ON := Lib.hid ho
    have hvs : vs.length = k := by rw [hp.1, List.length_take, List.length_map, HL.out]; omega
    have VS := Lib.hid hvs
    clear hp hh ho hvs
    by_cases hlt : k < n
    · obtain ⟨x, hx⟩ : ∃ x, xs[k]? = some x := ⟨_, List.getElem?_eq_getElem (by rw [HL.out]; exact hlt)⟩
      have OKX := Lib.hid (OK.out x (List.mem_of_getElem? hx))
      have HX := Lib.hid hx
      obtain ⟨b, o, rfl, hbw, hbl, e0, e1, e2, e3, e4⟩ := (EL.out.noth ON.out).ent hx
      have hb0 : (0 : Int) ≤ k := by omega
      have hb1 : (k : Int) < n := by omega
      clear hx hbw hbl
      go_wp2_with fail
      refine (entry_put_b x OKX.out.1 OKX.out.2 _ (TB.out.noth ON.out |>.noth ((Only.refl _ _).alloc _))).mono ?_
      rintro e w1 ⟨A1, c1, rfl, hp1, ho1⟩
      have ho2 := (((Only.refl Noth wr).alloc (.cells #[.string x.key, .int .i64 x.time, .int .u16 x.org, .string x.val, .int .i64 x.til] 64))).tr ho1
      have PP1 := Lib.hid (PP.out.noth ho2)
      have P1 := Lib.hid hp1
      have HH1 := Lib.hid (HH.out.only ho2 (fun h => h))
      have ON1 := Lib.hid (ON.out.tr ho2)
      clear hp1 ho1 ho2 e0 e1 e2 e3 e4
      go_wp2_with (refine wpList_store_b8 rfl rfl (.tmp 23) (.tmp 22) rfl w.heap.size k rfl A1 _ c1 rfl 23 _ HH1.out (.slice none 0 0) (by have := rowOf_get (n := n) (vs := vs) (by rw [VS.out]; exact hlt); rw [VS.out] at this; exact this) ?_; intro w2 hh2 ho2; have HH2 := Lib.hid hh2; have PP2 := Lib.hid ((PP1.out.snoc P1.out).off HH1.out (rowOf_noByte n PP1.out) ho2); have ON2 := Lib.hid (ON1.out.trans ho2 (fun j hj hl => by have : j = w.heap.size := hj; omega)); clear hh2 ho2)
      go_roundw
      case rel =>
        refine ⟨k + 1, vs ++ [.slice A1 (Ent.bytes x).length c1], by omega, by go_num, ?_, ?_, ON2.out⟩
        · have := PP2.out
          rw [List.take_add_one, List.getElem?_map, HX.out]
          exact this
        · have := HH2.out
          have e := rowOf_set (n := n) (vs := vs) (.slice A1 (Ent.bytes x).length c1) (by rw [VS.out]; exact hlt)
          rw [VS.out] at e
          rw [e] at this
          exact this
      case measure => simp [RowKit.intOf]; omega
    · obtain rfl : k = n := by omega
      have hpt := PP.out
      rw [List.take_of_length_le (by rw [List.length_map, HL.out]; exact Nat.le_refl _)] at hpt
      have hsrc := HH.out.src k (rowOf_size (by rw [VS.out]; exact Nat.le_refl _))
      rw [rowOf_full VS.out] at hsrc
      have hlm : (xs.map Ent.bytes).length = k := by rw [List.length_map, HL.out]
      have LS := Lib.hid (ben_list (some ⟨w.heap.size, 0, none⟩) k vs (xs.map Ent.bytes) wr (by rw [hlm]; exact hsrc) hpt (by rw [hlm]; exact Nat.le_refl _) (by omega) HB.out)
      rw [hlm] at LS
      clear hpt hsrc hlm
      go_wp2_with fail
      refine LS.out.mono ?_
      rintro e w3 hg
      obtain ⟨A3, c3, rfl, hp3, ho3⟩ := hg.part
      have P3 := Lib.hid hp3
      have ON3 := Lib.hid (ON.out.tr ho3)
      clear hg hp3 ho3
      go_wp2
      go_ret
      exact ⟨A3, c3, rfl, P3.out, ON3.out⟩
end Go.Proofs.YtjdgmnaemopfdaaDoor
