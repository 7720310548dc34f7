/- Layer 13: a packet with one entry, or one member, less. -/
import Derived.Test.YtjdgmnaemopfdaaDoorMoreP
import Derived.Test.YtjdgmnaemopfdaaDoorPkA
import Derived.Test.YtjdgmnaemopfdaaDoorPktArg
namespace Go.Proofs.YtjdgmnaemopfdaaDoor
open Go.RowKit Go.Lib
set_option linter.unusedVariables false
set_option maxRecDepth 100000
attribute [local go_sem ↓] Go.wp_at_zero Go.wp_at_succ

theorem put_ok {w w' : World} {p : Pkt} {s : Value} (h : PutAns w p s w') (h0 : p.check = 0) : ∃ A c, s = .slice A p.bytes.length c ∧ Part w' s p.bytes := by
  unfold PutAns at h
  rw [if_pos h0] at h
  obtain ⟨A, c, h1, h2, _⟩ := h
  exact ⟨A, c, h1, h2⟩
set_option maxHeartbeats 8000000 in
theorem more_walk (A : Option Addr) (c : Nat) (B : Option Addr) (d : Nat) (p : Pkt) (hf : p.Fit) (w : World) (hat : PkAt w A c B d p) (he : Env w) : Calls Tryd.prog 9 #[.agg #[.int .u8 p.kind, .int .u16 p.frm, .int .u16 p.abt, .int .i64 p.seq, .slice A p.ms.length c, .slice B p.es.length d]] w
    fun e w' => e = .returned (.bool true) ∧ Only Noth w w' := by
  have E := Lib.hid he
  have HP := Lib.hid hf
  have AT := Lib.hid hat
  have B0 := Lib.hid (Hld.new w 50 #[.int .u8 p.kind, .int .u16 p.frm, .int .u16 p.abt, .int .i64 p.seq, .slice A p.ms.length c, .slice B p.es.length d])
  have ON := Lib.hid ((Only.refl Noth w).alloc (.cells #[.int .u8 p.kind, .int .u16 p.frm, .int .u16 p.abt, .int .i64 p.seq, .slice A p.ms.length c, .slice B p.es.length d] 50))
  have HK := Lib.hid (show ∀ e ∈ p.es, e.key.size ≤ 9223372036854775807 ∧ e.val.size ≤ 9223372036854775807 from fun e h => (hf.e e h).2)
  have ml0 : (0 : Int) ≤ p.ms.length := by omega
  have el0 : (0 : Int) ≤ p.es.length := by omega
  clear he hf hat
  go_enter Tryd.func9, Tryd.ntmps9
  go_wp2_with fail
  refine (pk_light A c B d p HK.out _ (AT.out.noth ON.out)).mono ?_
  rintro e w1 ⟨⟨b, rfl, hb⟩, ho⟩
  have ON1 := Lib.hid (ON.out.tr ho)
  have B1 := Lib.hid (B0.out.only ho (fun h => h))
  have HB := Lib.hid hb
  clear ho hb
  cases b
  · go_wp2_with fail
    refine (pk_awake _ (E.out.noth ON1.out)).mono ?_
    rintro e w2 ⟨rfl, ho⟩
    have ON2 := Lib.hid (ON1.out.tr ho)
    clear ho
    go_wp2
    go_ret
    exact ⟨rfl, ON2.out⟩
  have LL := HB.out rfl
  have L1 : p.ms.length ≤ 80 := LL.1
  have L2 : p.es.length ≤ 260 := LL.2.1
  obtain ⟨c0, c1, c2, c3, c4, c5⟩ := B1.out.six
  clear HB LL
  go_wp2_with fail
  refine (pk_check A c B d p HP.out _ (AT.out.noth ON1.out) (E.out.noth ON1.out).tab).mono ?_
  rintro e w2 ⟨rfl, ho⟩
  have ON2 := Lib.hid (ON1.out.tr ho)
  have B2 := Lib.hid (B1.out.only ho (fun h => h))
  clear ho c0 c1 c2 c3 c4 c5
  by_cases h0 : p.check ≠ 0
  · go_wp2_with fail
    all_goals first | (exfalso; exact h0 (by assumption)) | skip
    refine (pk_awake _ (E.out.noth ON2.out)).mono ?_
    rintro e w3 ⟨rfl, ho⟩
    have ON3 := Lib.hid (ON2.out.tr ho)
    clear ho
    go_wp2
    go_ret
    exact ⟨rfl, ON3.out⟩
  have h0 : p.check = 0 := Decidable.not_not.1 h0
  have H0 := Lib.hid h0
  have HL : p.bytes.length ≤ 16384 := (pcheck_zero.1 h0).2.2
  rw [h0]
  clear h0
  obtain ⟨c0, c1, c2, c3, c4, c5⟩ := B2.out.six
  go_wp2_with fail
  refine (pk_put A c B d p HP.out _ (AT.out.noth ON2.out) (E.out.noth ON2.out).tab).mono ?_
  rintro e w3 ⟨⟨s, rfl, hs⟩, ho⟩
  obtain ⟨A3, c3', rfl, hp3⟩ := put_ok hs H0.out
  have ON3 := Lib.hid (ON2.out.tr ho)
  have B3 := Lib.hid (B2.out.only ho (fun h => h))
  rw [H0.out]
  clear ho hs hp3 c0 c1 c2 c3 c4 c5
  obtain ⟨N, hN⟩ : ∃ N, p.bytes.length = N := ⟨_, rfl⟩
  rw [hN] at HL
  have HN := Lib.hid hN
  rw [hN]
  clear hN
  obtain ⟨c0, c1, c2, c3, c4, c5⟩ := B3.out.six
  by_cases hlen11 : 0 < p.es.length
  · go_wp2_with fail
    obtain ⟨l11, x11, hes11⟩ : ∃ l x, p.es = l ++ [x] := by
      rcases List.eq_nil_or_concat p.es with h | ⟨l, x, h⟩
      · rw [h] at hlen11; exact absurd hlen11 (by simp)
      · exact ⟨l, x, by rw [h, List.concat_eq_append]⟩
    have HES11 := Lib.hid hes11
    have el11 := Lib.hid (show p.es.length = l11.length + 1 by rw [hes11]; simp)
    clear hes11
    refine (pk_copy A c B d p (by omega) (by omega) _ (AT.out.noth ON3.out)).mono ?_
    rintro e wa11 ⟨⟨A11, q11, B11, d11, rfl, hpa⟩, ho⟩
    have PA11 := Lib.hid hpa
    have ONa11 := Lib.hid (ON3.out.tr ho)
    have Ba11 := Lib.hid (B3.out.only ho (fun h => h))
    have HX11 := HES11.out
    have hxk : p.es[l11.length]? = some x11 := by rw [HX11]; simp
    have O111 := Lib.hid ((Only.refl Noth wa11).alloc (.cells #[.int .u8 p.kind, .int .u16 p.frm, .int .u16 p.abt, .int .i64 p.seq, .slice A11 p.ms.length q11, .slice B11 p.es.length d11] 50))
    have BX11 := Lib.hid (Hld.new wa11 50 #[.int .u8 p.kind, .int .u16 p.frm, .int .u16 p.abt, .int .i64 p.seq, .slice A11 p.ms.length q11, .slice B11 p.es.length d11])
    obtain ⟨b, o, hBe, hbw, hbl, e0, e1, e2, e3, e4⟩ := ((PA11.out.noth O111.out).es).ent hxk
    have HBe11 := Lib.hid hBe
    subst hBe
    clear ho hpa hbw hbl hxk HX11 hlen11 c0 c1 c2 c3 c4 c5
    have hq1 : (p.es.length : Int) - 1 = (l11.length : Int) := by have := el11.out; omega
    have hq2 : (0 : Int) ≤ l11.length := by have := el11.out; omega
    have hq3 : (l11.length : Int) < p.es.length := by have := el11.out; omega
    have hq4 : (l11.length : Int) ≤ d11 := by have := PA11.out.d0; have := el11.out; omega
    go_wp2_with fail
    have O211 := Lib.hid (((Only.refl Noth wa11).alloc (.cells #[.int .u8 p.kind, .int .u16 p.frm, .int .u16 p.abt, .int .i64 p.seq, .slice A11 p.ms.length q11, .slice (some ⟨b, o, none⟩) l11.length d11] 50)).alloc (.cells #[.string x11.key, .int .i64 x11.time, .int .u16 x11.org, .string x11.val, .int .i64 x11.til] 64))
    have EL11 := Lib.hid (show ElAt wa11 (fun k => k < wa11.heap.size) 5 (some ⟨b, o, none⟩) (l11.map Ent.cl) from by
      have h := PA11.out.es
      rw [HES11.out, List.map_append] at h
      exact h.left)
    have XB11 := Lib.hid (Hld.new (wa11.alloc (.cells #[.int .u8 p.kind, .int .u16 p.frm, .int .u16 p.abt, .int .i64 p.seq, .slice A11 p.ms.length q11, .slice (some ⟨b, o, none⟩) l11.length d11] 50)) 64 #[.string x11.key, .int .i64 x11.time, .int .u16 x11.org, .string x11.val, .int .i64 x11.til])
    have OQ11 := Lib.hid (ONa11.out.tr O211.out)
    have BQ11 := Lib.hid (Ba11.out.only O211.out (fun h => h))
    refine (pk_put A11 q11 (some ⟨b, o, none⟩) d11 (p.noE l11) (noE_fit HES11.out HP.out) _ ⟨(PA11.out.ms.noth O211.out).mono (fun k _ h => h), (EL11.out.noth O211.out).mono (fun k _ h => h), PA11.out.c0, PA11.out.c1, (by have := hq4; show l11.length ≤ d11; omega), PA11.out.d1⟩ (E.out.noth OQ11.out).tab).mono ?_
    rintro e wb11 ⟨⟨s, rfl, hs⟩, ho⟩
    obtain ⟨A5, c5', rfl, hp5⟩ := put_ok hs (noE_check HES11.out H0.out)
    rw [noE_check HES11.out H0.out]
    have OP11 := Lib.hid (OQ11.out.tr ho)
    have BP11 := Lib.hid (BQ11.out.only ho (fun h => h))
    have XP11 := Lib.hid (XB11.out.only ho (fun h => h))
    obtain ⟨M, hM⟩ : ∃ M, (p.noE l11).bytes.length = M := ⟨_, rfl⟩
    obtain ⟨K, hK⟩ : ∃ K, x11.bytes.length = K := ⟨_, rfl⟩
    have HKK := Lib.hid hK
    have hsum : (M : Int) + (K : Int) = (N : Int) := by have := noE_len HES11.out; rw [HN.out, hM, hK] at this; omega
    rw [hM]
    clear ho hs hp5 hM hK e0 e1 e2 e3 e4
    have e := XP11.out
    simp only [World.size_alloc] at e
    have e0 : wb11.cell? ⟨wa11.heap.size + 1, 0, none⟩ = _ := e.cell 0
    have e1 : wb11.cell? ⟨wa11.heap.size + 1, 1, none⟩ = _ := e.cell 1
    have e2 : wb11.cell? ⟨wa11.heap.size + 1, 2, none⟩ = _ := e.cell 2
    have e3 : wb11.cell? ⟨wa11.heap.size + 1, 3, none⟩ = _ := e.cell 3
    have e4 : wb11.cell? ⟨wa11.heap.size + 1, 4, none⟩ = _ := e.cell 4
    clear e
    go_wp2_with fail
    have hxm : x11 ∈ p.es := by rw [HES11.out]; simp
    refine (pk_size x11 (HP.out.e x11 hxm).1 (by have := check_small (firstBad_all.1 (pcheck_zero.1 H0.out).2.1 x11 hxm); omega) _ (E.out.noth OP11.out).tab).mono ?_
    rintro e wc11 ⟨rfl, ho⟩
    rw [HKK.out]
    have OR11 := Lib.hid (OP11.out.tr ho)
    have BR11 := Lib.hid (BP11.out.only ho (fun h => h))
    clear ho hxm e0 e1 e2 e3 e4
    obtain ⟨c0, c1, c2, c3, c4, c5⟩ := BR11.out.six
    by_cases hlen12 : 0 < p.ms.length
    · go_wp2_with fail
      obtain ⟨l12, x12, hes12⟩ : ∃ l x, p.ms = l ++ [x] := by
        rcases List.eq_nil_or_concat p.ms with h | ⟨l, x, h⟩
        · rw [h] at hlen12; exact absurd hlen12 (by simp)
        · exact ⟨l, x, by rw [h, List.concat_eq_append]⟩
      have HES12 := Lib.hid hes12
      have el12 := Lib.hid (show p.ms.length = l12.length + 1 by rw [hes12]; simp)
      clear hes12
      refine (pk_copy A c B d p (by omega) (by omega) _ (AT.out.noth OR11.out)).mono ?_
      rintro e wa12 ⟨⟨A12, q12, B12, d12, rfl, hpa⟩, ho⟩
      have PA12 := Lib.hid hpa
      have ONa12 := Lib.hid (OR11.out.tr ho)
      have Ba12 := Lib.hid (BR11.out.only ho (fun h => h))
      have HX12 := HES12.out
      have hxk : p.ms[l12.length]? = some x12 := by rw [HX12]; simp
      have O112 := Lib.hid ((Only.refl Noth wa12).alloc (.cells #[.int .u8 p.kind, .int .u16 p.frm, .int .u16 p.abt, .int .i64 p.seq, .slice A12 p.ms.length q12, .slice B12 p.es.length d12] 50))
      have BX12 := Lib.hid (Hld.new wa12 50 #[.int .u8 p.kind, .int .u16 p.frm, .int .u16 p.abt, .int .i64 p.seq, .slice A12 p.ms.length q12, .slice B12 p.es.length d12])
      obtain ⟨b, o, hBe, hbw, hbl, e0, e1, e2⟩ := ((PA12.out.noth O112.out).ms).mem hxk
      have HBe12 := Lib.hid hBe
      subst hBe
      clear ho hpa hbw hbl hxk HX12 hlen12 c0 c1 c2 c3 c4 c5
      have hq1 : (p.ms.length : Int) - 1 = (l12.length : Int) := by have := el12.out; omega
      have hq2 : (0 : Int) ≤ l12.length := by have := el12.out; omega
      have hq3 : (l12.length : Int) < p.ms.length := by have := el12.out; omega
      have hq4 : (l12.length : Int) ≤ q12 := by have := PA12.out.c0; have := el12.out; omega
      go_wp2_with fail
      have O212 := Lib.hid (((Only.refl Noth wa12).alloc (.cells #[.int .u8 p.kind, .int .u16 p.frm, .int .u16 p.abt, .int .i64 p.seq, .slice (some ⟨b, o, none⟩) l12.length q12, .slice B12 p.es.length d12] 50)).alloc (.cells #[.int .u16 x12.node, .int .u8 x12.st, .int .i64 x12.inc] 68))
      have EL12 := Lib.hid (show ElAt wa12 (fun k => k < wa12.heap.size) 3 (some ⟨b, o, none⟩) (l12.map Mem.cl) from by
        have h := PA12.out.ms
        rw [HES12.out, List.map_append] at h
        exact h.left)
      have XB12 := Lib.hid (Hld.new (wa12.alloc (.cells #[.int .u8 p.kind, .int .u16 p.frm, .int .u16 p.abt, .int .i64 p.seq, .slice (some ⟨b, o, none⟩) l12.length q12, .slice B12 p.es.length d12] 50)) 68 #[.int .u16 x12.node, .int .u8 x12.st, .int .i64 x12.inc])
      have OQ12 := Lib.hid (ONa12.out.tr O212.out)
      have BQ12 := Lib.hid (Ba12.out.only O212.out (fun h => h))
      refine (pk_put (some ⟨b, o, none⟩) q12 B12 d12 (p.noM l12) (noM_fit HES12.out HP.out) _ ⟨(EL12.out.noth O212.out).mono (fun k _ h => h), (PA12.out.es.noth O212.out).mono (fun k _ h => h), (by have := hq4; show l12.length ≤ q12; omega), PA12.out.c1, PA12.out.d0, PA12.out.d1⟩ (E.out.noth OQ12.out).tab).mono ?_
      rintro e wb12 ⟨⟨s, rfl, hs⟩, ho⟩
      obtain ⟨A5, c5', rfl, hp5⟩ := put_ok hs (noM_check HES12.out H0.out)
      rw [noM_check HES12.out H0.out]
      have OP12 := Lib.hid (OQ12.out.tr ho)
      have BP12 := Lib.hid (BQ12.out.only ho (fun h => h))
      have XP12 := Lib.hid (XB12.out.only ho (fun h => h))
      obtain ⟨M, hM⟩ : ∃ M, (p.noM l12).bytes.length = M := ⟨_, rfl⟩
      obtain ⟨K, hK⟩ : ∃ K, (tMem x12).length = K := ⟨_, rfl⟩
      have HKK := Lib.hid hK
      have hsum : (M : Int) + (K : Int) = (N : Int) := by have := noM_len HES12.out; rw [HN.out, hM, hK] at this; omega
      rw [hM]
      clear ho hs hp5 hM hK e0 e1 e2 
      have e := XP12.out
      simp only [World.size_alloc] at e
      have e0 : wb12.cell? ⟨wa12.heap.size + 1, 0, none⟩ = _ := e.cell 0
      have e1 : wb12.cell? ⟨wa12.heap.size + 1, 1, none⟩ = _ := e.cell 1
      have e2 : wb12.cell? ⟨wa12.heap.size + 1, 2, none⟩ = _ := e.cell 2
      clear e
      go_wp2_with fail
      have hxm : x12 ∈ p.ms := by rw [HES12.out]; simp
      refine (pk_member x12 (HP.out.m x12 hxm) _ rfl _ (E.out.noth OP12.out).tab).mono ?_
      rintro e wc12 ⟨A6, c6', rfl, -, ho⟩
      rw [HKK.out]
      have OR12 := Lib.hid (OP12.out.tr ho)
      have BR12 := Lib.hid (BP12.out.only ho (fun h => h))
      clear ho hxm e0 e1 e2 
      obtain ⟨c0, c1, c2, c3, c4, c5⟩ := BR12.out.six
      go_wp2_with fail
      refine (pk_awake _ (E.out.noth OR12.out)).mono ?_
      rintro e w99 ⟨rfl, ho⟩
      have ON99 := Lib.hid (OR12.out.tr ho)
      clear ho
      go_wp2
      go_ret
      exact ⟨rfl, ON99.out⟩
    · go_wp2_with fail
      refine (pk_awake _ (E.out.noth OR11.out)).mono ?_
      rintro e w99 ⟨rfl, ho⟩
      have ON99 := Lib.hid (OR11.out.tr ho)
      clear ho
      go_wp2
      go_ret
      exact ⟨rfl, ON99.out⟩
  · by_cases hlen13 : 0 < p.ms.length
    · go_wp2_with fail
      obtain ⟨l13, x13, hes13⟩ : ∃ l x, p.ms = l ++ [x] := by
        rcases List.eq_nil_or_concat p.ms with h | ⟨l, x, h⟩
        · rw [h] at hlen13; exact absurd hlen13 (by simp)
        · exact ⟨l, x, by rw [h, List.concat_eq_append]⟩
      have HES13 := Lib.hid hes13
      have el13 := Lib.hid (show p.ms.length = l13.length + 1 by rw [hes13]; simp)
      clear hes13
      refine (pk_copy A c B d p (by omega) (by omega) _ (AT.out.noth ON3.out)).mono ?_
      rintro e wa13 ⟨⟨A13, q13, B13, d13, rfl, hpa⟩, ho⟩
      have PA13 := Lib.hid hpa
      have ONa13 := Lib.hid (ON3.out.tr ho)
      have Ba13 := Lib.hid (B3.out.only ho (fun h => h))
      have HX13 := HES13.out
      have hxk : p.ms[l13.length]? = some x13 := by rw [HX13]; simp
      have O113 := Lib.hid ((Only.refl Noth wa13).alloc (.cells #[.int .u8 p.kind, .int .u16 p.frm, .int .u16 p.abt, .int .i64 p.seq, .slice A13 p.ms.length q13, .slice B13 p.es.length d13] 50))
      have BX13 := Lib.hid (Hld.new wa13 50 #[.int .u8 p.kind, .int .u16 p.frm, .int .u16 p.abt, .int .i64 p.seq, .slice A13 p.ms.length q13, .slice B13 p.es.length d13])
      obtain ⟨b, o, hBe, hbw, hbl, e0, e1, e2⟩ := ((PA13.out.noth O113.out).ms).mem hxk
      have HBe13 := Lib.hid hBe
      subst hBe
      clear ho hpa hbw hbl hxk HX13 hlen13 c0 c1 c2 c3 c4 c5
      have hq1 : (p.ms.length : Int) - 1 = (l13.length : Int) := by have := el13.out; omega
      have hq2 : (0 : Int) ≤ l13.length := by have := el13.out; omega
      have hq3 : (l13.length : Int) < p.ms.length := by have := el13.out; omega
      have hq4 : (l13.length : Int) ≤ q13 := by have := PA13.out.c0; have := el13.out; omega
      go_wp2_with fail
      have O213 := Lib.hid (((Only.refl Noth wa13).alloc (.cells #[.int .u8 p.kind, .int .u16 p.frm, .int .u16 p.abt, .int .i64 p.seq, .slice (some ⟨b, o, none⟩) l13.length q13, .slice B13 p.es.length d13] 50)).alloc (.cells #[.int .u16 x13.node, .int .u8 x13.st, .int .i64 x13.inc] 68))
      have EL13 := Lib.hid (show ElAt wa13 (fun k => k < wa13.heap.size) 3 (some ⟨b, o, none⟩) (l13.map Mem.cl) from by
        have h := PA13.out.ms
        rw [HES13.out, List.map_append] at h
        exact h.left)
      have XB13 := Lib.hid (Hld.new (wa13.alloc (.cells #[.int .u8 p.kind, .int .u16 p.frm, .int .u16 p.abt, .int .i64 p.seq, .slice (some ⟨b, o, none⟩) l13.length q13, .slice B13 p.es.length d13] 50)) 68 #[.int .u16 x13.node, .int .u8 x13.st, .int .i64 x13.inc])
      have OQ13 := Lib.hid (ONa13.out.tr O213.out)
      have BQ13 := Lib.hid (Ba13.out.only O213.out (fun h => h))
      refine (pk_put (some ⟨b, o, none⟩) q13 B13 d13 (p.noM l13) (noM_fit HES13.out HP.out) _ ⟨(EL13.out.noth O213.out).mono (fun k _ h => h), (PA13.out.es.noth O213.out).mono (fun k _ h => h), (by have := hq4; show l13.length ≤ q13; omega), PA13.out.c1, PA13.out.d0, PA13.out.d1⟩ (E.out.noth OQ13.out).tab).mono ?_
      rintro e wb13 ⟨⟨s, rfl, hs⟩, ho⟩
      obtain ⟨A5, c5', rfl, hp5⟩ := put_ok hs (noM_check HES13.out H0.out)
      rw [noM_check HES13.out H0.out]
      have OP13 := Lib.hid (OQ13.out.tr ho)
      have BP13 := Lib.hid (BQ13.out.only ho (fun h => h))
      have XP13 := Lib.hid (XB13.out.only ho (fun h => h))
      obtain ⟨M, hM⟩ : ∃ M, (p.noM l13).bytes.length = M := ⟨_, rfl⟩
      obtain ⟨K, hK⟩ : ∃ K, (tMem x13).length = K := ⟨_, rfl⟩
      have HKK := Lib.hid hK
      have hsum : (M : Int) + (K : Int) = (N : Int) := by have := noM_len HES13.out; rw [HN.out, hM, hK] at this; omega
      rw [hM]
      clear ho hs hp5 hM hK e0 e1 e2 
      have e := XP13.out
      simp only [World.size_alloc] at e
      have e0 : wb13.cell? ⟨wa13.heap.size + 1, 0, none⟩ = _ := e.cell 0
      have e1 : wb13.cell? ⟨wa13.heap.size + 1, 1, none⟩ = _ := e.cell 1
      have e2 : wb13.cell? ⟨wa13.heap.size + 1, 2, none⟩ = _ := e.cell 2
      clear e
      go_wp2_with fail
      have hxm : x13 ∈ p.ms := by rw [HES13.out]; simp
      refine (pk_member x13 (HP.out.m x13 hxm) _ rfl _ (E.out.noth OP13.out).tab).mono ?_
      rintro e wc13 ⟨A6, c6', rfl, -, ho⟩
      rw [HKK.out]
      have OR13 := Lib.hid (OP13.out.tr ho)
      have BR13 := Lib.hid (BP13.out.only ho (fun h => h))
      clear ho hxm e0 e1 e2 
      obtain ⟨c0, c1, c2, c3, c4, c5⟩ := BR13.out.six
      go_wp2_with fail
      refine (pk_awake _ (E.out.noth OR13.out)).mono ?_
      rintro e w99 ⟨rfl, ho⟩
      have ON99 := Lib.hid (OR13.out.tr ho)
      clear ho
      go_wp2
      go_ret
      exact ⟨rfl, ON99.out⟩
    · go_wp2_with fail
      refine (pk_awake _ (E.out.noth ON3.out)).mono ?_
      rintro e w99 ⟨rfl, ho⟩
      have ON99 := Lib.hid (ON3.out.tr ho)
      clear ho
      go_wp2
      go_ret
      exact ⟨rfl, ON99.out⟩
end Go.Proofs.YtjdgmnaemopfdaaDoor
