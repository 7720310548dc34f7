/- Package packet: the reference's Light and Copy. -/
import Derived.Test.YtjdgmnaemopfdaaDoorPkE
namespace Go.Proofs.YtjdgmnaemopfdaaDoor
open Go.RowKit Go.Lib
set_option linter.unusedVariables false
set_option maxRecDepth 100000
attribute [local go_sem ↓] Go.wp_at_zero Go.wp_at_succ

def LightAns (p : Pkt) (e : Ending) : Prop := ∃ b : Bool, e = .returned (.bool b) ∧ (b = true → p.Light)
set_option maxHeartbeats 4000000 in
theorem pk_light (A : Option Addr) (c : Nat) (B : Option Addr) (d : Nat) (p : Pkt) (hb : ∀ e ∈ p.es, e.key.size ≤ 9223372036854775807 ∧ e.val.size ≤ 9223372036854775807) (w : World) (hat : PkAt w A c B d p) : Calls Tryd.prog 28 #[.agg #[.int .u8 p.kind, .int .u16 p.frm, .int .u16 p.abt, .int .i64 p.seq, .slice A p.ms.length c, .slice B p.es.length d]] w
    fun e w' => LightAns p e ∧ Only Noth w w' := by
  have HB := Lib.hid hb
  have B0 := Lib.hid (Hld.new w 50 #[.int .u8 p.kind, .int .u16 p.frm, .int .u16 p.abt, .int .i64 p.seq, .slice A p.ms.length c, .slice B p.es.length d])
  have ON := Lib.hid ((Only.refl Noth w).alloc (.cells #[.int .u8 p.kind, .int .u16 p.frm, .int .u16 p.abt, .int .i64 p.seq, .slice A p.ms.length c, .slice B p.es.length d] 50))
  have AT := Lib.hid hat
  have ml0 : (0 : Int) ≤ p.ms.length := by omega
  have el0 : (0 : Int) ≤ p.es.length := by omega
  have d1 : (p.es.length : Int) ≤ d := by have := hat.d0; omega
  have d2 : (d : Int) ≤ 9223372036854775807 := by have := hat.d1; omega
  clear hat hb
  go_enter Tryd.func28, Tryd.ntmps28
  go_wp2_with fail
  all_goals first
    | (go_ret; exact ⟨⟨_, rfl, fun h => by cases h⟩, ON.out⟩; done)
    | skip
  go_loopw [3, 4] (fun s i W => (∃ (k : Nat) (n : Int), k ≤ p.es.length ∧ i = .int .i64 (k : Int) ∧ s = .int .i64 n ∧ 0 ≤ n ∧ n ≤ 40000 ∧ ∀ e ∈ p.es.take k, e.key.size + e.val.size ≤ 40000) ∧ Only Noth w W ∧ Hld W w.heap.size 50 #[.int .u8 p.kind, .int .u16 p.frm, .int .u16 p.abt, .int .i64 p.seq, .slice A p.ms.length c, .slice B p.es.length d]) (fun s i _ => p.es.length - (RowKit.intOf i).toNat)
  case atStart => exact ⟨⟨0, 0, Nat.zero_le _, rfl, rfl, by omega, by omega, by simp⟩, ON.out, B0.out⟩
  case round =>
    obtain ⟨⟨k, n, hk, rfl, rfl, hn0, hn1, ha⟩, ho, hh⟩ := hrel
    have ON2 := Lib.hid ho
    have HA := Lib.hid ha
    have HH := Lib.hid hh
    have c5 : wr.cell? ⟨w.heap.size, 5, none⟩ = some (.slice B p.es.length d) := hh.cell 5
    clear ho ha hh
    by_cases hlt : k < p.es.length
    · obtain ⟨x, hx⟩ : ∃ x, p.es[k]? = some x := ⟨_, List.getElem?_eq_getElem hlt⟩
      have HX := Lib.hid hx
      have hk1 := (HB.out x (List.mem_of_getElem? hx)).1
      have hv1 := (HB.out x (List.mem_of_getElem? hx)).2
      obtain ⟨b, o, hBe, hbw, hbl, e0, e1, e2, e3, e4⟩ := ((AT.out.noth ON2.out).es).ent hx
      rw [hBe] at c5
      have hb0 : (0 : Int) ≤ k := by omega
      have hb1 : (k : Int) < p.es.length := by omega
      clear hx hbw hbl e1 e2 e4
      go_wp2_with fail
      · go_ret
        exact ⟨⟨_, rfl, fun h => by cases h⟩, ON2.out⟩
      · go_ret
        exact ⟨⟨_, rfl, fun h => by cases h⟩, ON2.out⟩
      · rename_i q1 q2
        have hs1 : x.key.size + x.val.size ≤ 40000 := by omega
        go_roundw
        case rel =>
          refine ⟨⟨k + 1, _, by omega, by go_num, rfl, by omega, by omega, ?_⟩, ON2.out, HH.out⟩
          rw [List.take_add_one, HX.out]
          intro e he
          rcases List.mem_append.1 he with he | he
          · exact HA.out e he
          · simp at he
            subst he
            exact hs1
        case measure => simp [RowKit.intOf]; omega
    · obtain rfl : k = p.es.length := by omega
      have h0 := HA.out
      rw [List.take_of_length_le (Nat.le_refl _)] at h0
      go_wp2
      go_ret
      exact ⟨⟨_, rfl, fun _ => ⟨by omega, by omega, h0⟩⟩, ON2.out⟩
theorem PkAt.msrc {w : World} {A B : Option Addr} {c d : Nat} {p : Pkt} (h : PkAt w A c B d p) : Src w (fun k => k < w.heap.size) 3 A p.ms.length (p.ms.map Mem.cl).flatten := by
  have := h.ms.src (mem_len _)
  rwa [List.length_map] at this
theorem PkAt.esrc {w : World} {A B : Option Addr} {c d : Nat} {p : Pkt} (h : PkAt w A c B d p) : Src w (fun k => k < w.heap.size) 5 B p.es.length (p.es.map Ent.cl).flatten := by
  have := h.es.src (ent_len _)
  rwa [List.length_map] at this
theorem Hld.six {w : World} {g : Nat} {t : TypeId} {x0 x1 x2 x3 x4 x5 : Value} (h : Hld w g t #[x0, x1, x2, x3, x4, x5]) :
    w.cell? ⟨g, 0, none⟩ = some x0 ∧ w.cell? ⟨g, 1, none⟩ = some x1 ∧ w.cell? ⟨g, 2, none⟩ = some x2 ∧ w.cell? ⟨g, 3, none⟩ = some x3 ∧ w.cell? ⟨g, 4, none⟩ = some x4 ∧ w.cell? ⟨g, 5, none⟩ = some x5 :=
  ⟨h.cell 0, h.cell 1, h.cell 2, h.cell 3, h.cell 4, h.cell 5⟩
def CopyAns (p : Pkt) (e : Ending) (w' : World) : Prop := ∃ A' c' B' d', e = .returned (.agg #[.int .u8 p.kind, .int .u16 p.frm, .int .u16 p.abt, .int .i64 p.seq, .slice A' p.ms.length c', .slice B' p.es.length d']) ∧ PkAt w' A' c' B' d' p
set_option maxHeartbeats 4000000 in
theorem pk_copy (A : Option Addr) (c : Nat) (B : Option Addr) (d : Nat) (p : Pkt) (hm : p.ms.length ≤ 1000000) (he : p.es.length ≤ 1000000) (w : World) (hat : PkAt w A c B d p) : Calls Tryd.prog 30 #[.agg #[.int .u8 p.kind, .int .u16 p.frm, .int .u16 p.abt, .int .i64 p.seq, .slice A p.ms.length c, .slice B p.es.length d]] w
    fun e w' => CopyAns p e w' ∧ Only Noth w w' := by
  obtain ⟨i0, hi, hz0, hz1, hz2⟩ := info_parts meminfo
  obtain ⟨i1, hj, hy0, hy1, hy2⟩ := info_parts entinfo
  have O0 := Lib.hid (((Only.refl Noth w).alloc (.cells #[.int .u8 p.kind, .int .u16 p.frm, .int .u16 p.abt, .int .i64 p.seq, .slice A p.ms.length c, .slice B p.es.length d] 50)).alloc (.cells #[.int .u8 0, .int .u16 0, .int .u16 0, .int .i64 0, .slice none 0 0, .slice none 0 0] 50))
  have O1 := Lib.hid (O0.out.alloc (.cells #[] 68))
  have B0 := Lib.hid (((Hld.new w 50 #[.int .u8 p.kind, .int .u16 p.frm, .int .u16 p.abt, .int .i64 p.seq, .slice A p.ms.length c, .slice B p.es.length d]).only ((Only.refl Noth _).alloc (.cells #[.int .u8 0, .int .u16 0, .int .u16 0, .int .i64 0, .slice none 0 0, .slice none 0 0] 50)) (fun h => h)).only ((Only.refl Noth _).alloc (.cells #[] 68)) (fun h => h))
  have r0 := (Hld.new (w.alloc (.cells #[.int .u8 p.kind, .int .u16 p.frm, .int .u16 p.abt, .int .i64 p.seq, .slice A p.ms.length c, .slice B p.es.length d] 50)) 50 #[.int .u8 0, .int .u16 0, .int .u16 0, .int .i64 0, .slice none 0 0, .slice none 0 0]).only ((Only.refl Noth _).alloc (.cells #[] 68)) (fun h => h)
  simp only [World.size_alloc] at r0
  have R0 := Lib.hid r0
  clear r0
  have AT := Lib.hid hat
  have HM := Lib.hid hm
  have HE := Lib.hid he
  clear hat hm he
  go_enter Tryd.func30, Tryd.ntmps30
  go_wp2_with (first
    | (at_builtin; refine wpList_append_row _ rfl (.tmp 3) (.tmp 5) 47 rfl 68 i0 (.agg #[.int .u16 0, .int .u8 0, .int .i64 0]) 3 16 Tryd.underlying47 hi hz0 hz1 hz2 rfl Noth (fun k => k < (((w.alloc (.cells #[.int .u8 p.kind, .int .u16 p.frm, .int .u16 p.abt, .int .i64 p.seq, .slice A p.ms.length c, .slice B p.es.length d] 50)).alloc (.cells #[.int .u8 0, .int .u16 0, .int .u16 0, .int .i64 0, .slice none 0 0, .slice none 0 0] 50)).alloc (.cells #[] 68)).heap.size) _ 0 [] rfl (Row.empty _ _ _ _ _) A p.ms.length c _ rfl ((AT.out.noth O1.out).msrc) (mem_one _) (by have := HM.out; simp only [maxLen]; omega) (by have := HM.out; omega) ?_; intro v1 w1 hrow ho hsz; rw [Nat.zero_add, List.nil_append] at hrow; obtain ⟨A1, c1, rfl, k1, k2, hel⟩ := hrow.el (mem_len _) (by omega) (by rw [List.length_map]); have E1 := Lib.hid hel; have K1 := Lib.hid k1; have K2 := Lib.hid k2; have O2 := Lib.hid ho; have B1 := Lib.hid (B0.out.only ho (fun h => h)); have R1 := Lib.hid (R0.out.only ho (fun h => h)); clear hrow ho hsz hel k1 k2)
    | (refine wpList_store_mem rfl rfl (.tmp 7) (.tmp 6) rfl w.heap.size 4 rfl A1 _ c1 rfl 50 _ B1.out (.slice A p.ms.length c) rfl ?_; intro w2 hb2 ho2; have B2 := Lib.hid (show Hld w2 w.heap.size 50 #[.int .u8 p.kind, .int .u16 p.frm, .int .u16 p.abt, .int .i64 p.seq, .slice A1 p.ms.length c1, .slice B p.es.length d] from hb2); have R2 := Lib.hid (R1.out.only ho2 (fun h => by have h : w.heap.size + 1 = w.heap.size := h; omega)); have O3 := Lib.hid ((O1.out.tr O2.out).trans ho2 (fun j hj hl => by have hj : j = w.heap.size := hj; omega)); have E2 := Lib.hid (E1.out.only ho2 (fun k hk hj => by have hj : k = w.heap.size := hj; rcases hk with hk | hk; exact hk.elim; simp only [World.size_alloc] at hk; omega)); have Z2 := Lib.hid (show w.heap.size + 3 ≤ w2.heap.size by have a1 := O2.out.size; have a2 := ho2.size; simp only [World.size_alloc] at a1; omega); have c5 : (w2.alloc (.cells #[] 64)).cell? ⟨w.heap.size, 5, none⟩ = some (.slice B p.es.length d) := (hb2.only ((Only.refl Noth w2).alloc (.cells #[] 64)) (fun h => h)).cell 5; clear hb2 ho2)
    | (at_builtin; refine wpList_append_row _ rfl (.tmp 8) (.tmp 10) 48 rfl 64 i1 (.agg #[.string ⟨#[]⟩, .int .i64 0, .int .u16 0, .string ⟨#[]⟩, .int .i64 0]) 5 56 Tryd.underlying48 hj hy0 hy1 hy2 rfl Noth (fun k => k < (w2.alloc (.cells #[] 64)).heap.size) _ 0 [] rfl (Row.empty _ _ _ _ _) B p.es.length d _ rfl ((AT.out.noth (O3.out.alloc (.cells #[] 64))).esrc) (ent_one _) (by have := HE.out; simp only [maxLen]; omega) (by have := HE.out; omega) ?_; intro v3 w3 hrow ho hsz; rw [Nat.zero_add, List.nil_append] at hrow; obtain ⟨B1, d1, rfl, k1, k2, hel⟩ := hrow.el (ent_len _) (by omega) (by rw [List.length_map]); have E3 := Lib.hid hel; have K3 := Lib.hid k1; have K4 := Lib.hid k2; have O4 := Lib.hid ((O3.out.alloc (.cells #[] 64)).tr ho); have z1 := ((O1.out.tr O2.out).size); have z2 := O3.out.size; have ho' := ((Only.refl Noth w2).alloc (.cells #[] 64)).tr ho; have B3 := Lib.hid (B2.out.only ho' (fun h => h)); have R3 := Lib.hid (R2.out.only ho' (fun h => h)); have F3 := Lib.hid (E2.out.only ho' (fun _ _ h => h)); clear hrow ho hsz hel k1 k2 ho' c5)
    | (refine wpList_store_ent rfl rfl (.tmp 12) (.tmp 11) rfl w.heap.size 5 rfl B1 _ d1 rfl 50 _ B3.out (.slice B p.es.length d) rfl ?_; intro w4 hb2 ho2; have R4 := Lib.hid (R3.out.only ho2 (fun h => by have h : w.heap.size + 1 = w.heap.size := h; omega)); have O5 := Lib.hid (O4.out.trans ho2 (fun j hj hl => by have hj : j = w.heap.size := hj; omega)); have E4 := Lib.hid (F3.out.only ho2 (fun k hk hj => by have hj : k = w.heap.size := hj; rcases hk with hk | hk; exact hk.elim; simp only [World.size_alloc] at hk; omega)); have E5 := Lib.hid (E3.out.only ho2 (fun k hk hj => by have hj : k = w.heap.size := hj; have zz := Z2.out; rcases hk with hk | hk; exact hk.elim; simp only [World.size_alloc] at hk; omega)); have B4 := Lib.hid (show Hld w4 w.heap.size 50 #[.int .u8 p.kind, .int .u16 p.frm, .int .u16 p.abt, .int .i64 p.seq, .slice A1 p.ms.length c1, .slice B1 p.es.length d1] from hb2); obtain ⟨c0, c1', c2, c3, c4, c5⟩ := B4.out.six; clear hb2 ho2 z1 z2)
    | (refine wpList_store_whole rfl rfl 50 (.tmp 2) (.tmp 13) rfl (w.heap.size + 1) rfl #[.int .u8 p.kind, .int .u16 p.frm, .int .u16 p.abt, .int .i64 p.seq, .slice A1 p.ms.length c1, .slice B1 p.es.length d1] rfl 50 _ R4.out rfl (by simp [Value.oneCell']) (by kernel_rfl) ?_; intro w5 gb ho3 _; obtain ⟨y0, y1, y2, y3, y4, y5⟩ := gb.six; have O6 := Lib.hid (O5.out.trans ho3 (fun j hj hl => by have hj : j = w.heap.size + 1 := hj; omega)); have E6 := Lib.hid (E4.out.only ho3 (fun k hk hj => by have hj : k = w.heap.size + 1 := hj; rcases hk with hk | hk; exact hk.elim; simp only [World.size_alloc] at hk; omega)); have E7 := Lib.hid (E5.out.only ho3 (fun k hk hj => by have hj : k = w.heap.size + 1 := hj; have zz := Z2.out; rcases hk with hk | hk; exact hk.elim; simp only [World.size_alloc] at hk; omega)); clear gb ho3 c0 c1' c2 c3 c4 c5))
  refine bodyPost_ret (v := .agg #[.int .u8 p.kind, .int .u16 p.frm, .int .u16 p.abt, .int .i64 p.seq, .slice A1 p.ms.length c1, .slice B1 p.es.length d1]) (by simp [results, Tryd.results30, go_sem, y0, y1, y2, y3, y4, y5]) rfl ?_
  exact ⟨⟨A1, c1, B1, d1, rfl, ⟨E6.out.mono (fun k _ h => h), E7.out.mono (fun k _ h => h), K1.out, K2.out, K3.out, K4.out⟩⟩, O6.out⟩
end Go.Proofs.YtjdgmnaemopfdaaDoor
