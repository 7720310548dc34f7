/- The reference: a packet as it is laid. -/
import Derived.Test.YtjdgmnaemopfdaaDoorMRP
import Derived.Test.YtjdgmnaemopfdaaDoorMPS
import Derived.Test.YtjdgmnaemopfdaaDoorMPB
namespace Go.Proofs.YtjdgmnaemopfdaaDoor
open Go.RowKit Go.Lib
set_option linter.unusedVariables false
set_option maxRecDepth 100000
attribute [local go_sem ↓] Go.wp_at_zero Go.wp_at_succ

/-- Parts, by place, that lie in blocks of S. -/
def PartsS (w : World) (S : Nat → Prop) (vs : List Value) (ls : List (List UInt8)) : Prop := vs.length = ls.length ∧ ∀ (i : Nat) l, ls[i]? = some l → ∃ A c, vs[i]? = some (.slice A l.length c) ∧ Src w S 1 A l.length (byteCells l) ∧ l.length ≤ c ∧ c ≤ 9223372036854775807
/-- A row of parts of one's own, made since w0; its parts lie elsewhere. -/
def RL (w0 W : World) (v : Value) (n : Nat) (ls : List (List UInt8)) : Prop := ls.length = n ∧ ∃ A c vs, v = .slice A n c ∧ Row W (New w0) 23 1 (.slice A n c) n vs ∧ PartsS W (fun b => ¬ OwnB A c b) vs ls
theorem RL.nil (w0 W : World) : RL w0 W (.slice none 0 0) 0 [] := ⟨rfl, none, 0, [], rfl, Row.nil _ _ _ _, rfl, fun i l h => by simp at h⟩
theorem PartsS.only {w w' : World} {S F : Nat → Prop} {vs : List Value} {ls : List (List UInt8)} (h : PartsS w S vs ls) (ho : Only F w w') (hSF : ∀ k, S k → ¬ F k) : PartsS w' S vs ls :=
  ⟨h.1, fun i l hi => by obtain ⟨A, c, h1, h2, h3⟩ := h.2 i l hi; exact ⟨A, c, h1, h2.only ho hSF, h3⟩⟩
theorem PartsS.mono {w : World} {S T : Nat → Prop} {vs : List Value} {ls : List (List UInt8)} (h : PartsS w S vs ls) (hST : ∀ k, S k → k < w.heap.size → T k) : PartsS w T vs ls :=
  ⟨h.1, fun i l hi => by obtain ⟨A, c, h1, h2, h3⟩ := h.2 i l hi; exact ⟨A, c, h1, h2.mono hST, h3⟩⟩
theorem PartsS.parts {w : World} {S : Nat → Prop} {vs : List Value} {ls : List (List UInt8)} (h : PartsS w S vs ls) : Parts w vs ls :=
  ⟨h.1, fun i l hi => by obtain ⟨A, c, h1, h2, h3, h4⟩ := h.2 i l hi; exact ⟨_, h1, A, c, rfl, h2.mono (fun _ _ h => h), h3, h4⟩⟩
theorem PartsS.snoc {w : World} {S : Nat → Prop} {vs : List Value} {ls : List (List UInt8)} {A : Option Addr} {c : Nat} {l : List UInt8} (h : PartsS w S vs ls) (hs : Src w S 1 A l.length (byteCells l)) (h1 : l.length ≤ c) (h2 : c ≤ 9223372036854775807) : PartsS w S (vs ++ [.slice A l.length c]) (ls ++ [l]) := by
  refine ⟨by simp [h.1], fun i m hi => ?_⟩
  by_cases hlt : i < ls.length
  · rw [List.getElem?_append_left hlt] at hi
    rw [List.getElem?_append_left (by rw [h.1]; exact hlt)]
    exact h.2 i m hi
  · have hi2 : i = ls.length := by
      have := (List.getElem?_eq_some_iff.1 hi).1
      rw [List.length_append] at this
      simp at this
      omega
    subst hi2
    rw [List.getElem?_append_right (Nat.le_refl _)] at hi
    simp at hi
    subst hi
    rw [List.getElem?_append_right (by rw [h.1]; exact Nat.le_refl _)]
    exact ⟨A, c, by simp [h.1], hs, h1, h2⟩
theorem RL.noth {w0 W W' : World} {v : Value} {n : Nat} {ls : List (List UInt8)} (h : RL w0 W v n ls) (ho : Only Noth W W') : RL w0 W' v n ls := by
  obtain ⟨h0, A, c, vs, h1, h2, h3⟩ := h
  exact ⟨h0, A, c, vs, h1, h2.only ho (fun _ _ h => h), h3.only ho (fun _ _ h => h)⟩
/-- One part more. -/
theorem RL.step {w0 W W1 W2 W3 : World} {A A1 : Option Addr} {c c1 n : Nat} {ls : List (List UInt8)} {l : List UInt8} {vs : List Value} {v' : Value} (h0 : ls.length = n) (hr : Row W (New w0) 23 1 (.slice A n c) n vs) (hp : PartsS W (fun b => ¬ OwnB A c b) vs ls)
    (hs : Src W1 (New W) 1 A1 l.length (byteCells l)) (h1 : l.length ≤ c1) (h2 : c1 ≤ 9223372036854775807) (ho1 : Only Noth W W1) (ho2 : Only Noth W1 W2) (hlt : W1.heap.size < W2.heap.size ∨ W1.heap.size ≤ W2.heap.size) (hz : w0.heap.size ≤ W.heap.size)
    (hr3 : Row W3 (Plus (OwnB A c) W2 W3) 23 1 v' (n + 1) (vs ++ [.slice A1 l.length c1])) (ho3 : Only (OwnB A c) W2 W3) : RL w0 W3 v' (n + 1) (ls ++ [l]) := by
  obtain ⟨A', c', rfl⟩ := hr3.shape
  have hbl : ∀ k, OwnB A c k → k < W.heap.size := fun k hk => by
    obtain ⟨_, cur, he⟩ := hr.tight.2 k hk
    exact (Array.getElem?_eq_some_iff.1 he).1
  have z1 := ho1.size
  have z2 := ho2.size
  have hown : ∀ k, OwnB A' c' k → OwnB A c k ∨ W2.heap.size ≤ k := fun k hk => by
    rcases (hr3.tight.2 k hk).1 with h | h
    · exact .inl h
    · exact .inr h.1
  refine ⟨by simp [h0], A', c', _, rfl, hr3.mono (fun k hk _ => ?_), ?_⟩
  · rcases hk with hk | hk
    · exact (hr.tight.2 k hk).1
    · have := hk.1
      unfold New
      omega
  · have p1 : PartsS W3 (fun b => ¬ OwnB A c b ∧ b < W2.heap.size) vs ls := by
      have := ((hp.only ho1 (fun _ _ h => h)).only ho2 (fun _ _ h => h)).mono (T := fun b => ¬ OwnB A c b ∧ b < W2.heap.size) (fun k hk hl => ⟨hk, hl⟩)
      exact this.only ho3 (fun k hk => hk.1)
    have s1 : Src W3 (fun b => ¬ OwnB A c b ∧ b < W2.heap.size) 1 A1 l.length (byteCells l) := by
      have := (hs.only ho2 (fun _ _ h => h)).mono (G := fun b => ¬ OwnB A c b ∧ b < W2.heap.size) (fun k hk hl => ⟨fun ho => by have := hbl k ho; unfold New at hk; omega, hl⟩)
      exact this.only ho3 (fun k hk => hk.1)
    refine (p1.snoc s1 h1 h2).mono (fun k hk _ ho => ?_)
    rcases hown k ho with h | h
    · exact hk.1 h
    · have := hk.2
      omega
theorem RL.up {w0 W W2 W3 : World} {A : Option Addr} {c n : Nat} {vs : List Value} (hr : Row W (New w0) 23 1 (.slice A n c) n vs) (ho : Only Noth w0 W) (ho2 : Only Noth W W2) (ho3 : Only (OwnB A c) W2 W3) : Only Noth w0 W3 :=
  (ho.tr ho2).trans ho3 (fun k hk hl => by
    have := (hr.tight.2 k hk).1
    unfold New at this
    omega)
theorem RL.get {w0 W : World} {v : Value} {n : Nat} {ls : List (List UInt8)} (h : RL w0 W v n ls) : ∃ A c vs, v = .slice A n c ∧ Src W (fun k => k < W.heap.size) 1 A n vs ∧ Parts W vs ls ∧ n ≤ c ∧ c ≤ 9223372036854775807 := by
  obtain ⟨h0, A, c, vs, h1, h2, h3⟩ := h
  exact ⟨A, c, vs, h1, h2.src.mono (fun _ _ h => h), h3.parts, h2.caps⟩
set_option maxHeartbeats 4000000 in
theorem ref_lay (A : Option Addr) (c : Nat) (B : Option Addr) (d : Nat) (p : Pkt) (hp : p.Ok) (L : List UInt8) (hL : p.bytes = L) (w : World) (hat : PkAt w A c B d p) : Calls Tryd.prog 54 #[.agg #[.int .u8 p.kind, .int .u16 p.frm, .int .u16 p.abt, .int .i64 p.seq, .slice A p.ms.length c, .slice B p.es.length d]] w (GivenN w L) := by
  have HP := Lib.hid hp
  have B0 := Lib.hid (Hld.new w 50 #[.int .u8 p.kind, .int .u16 p.frm, .int .u16 p.abt, .int .i64 p.seq, .slice A p.ms.length c, .slice B p.es.length d])
  have O0 := Lib.hid ((Only.refl Noth w).alloc (.cells #[.int .u8 p.kind, .int .u16 p.frm, .int .u16 p.abt, .int .i64 p.seq, .slice A p.ms.length c, .slice B p.es.length d] 50))
  have AT := Lib.hid (hat.noth O0.out)
  obtain ⟨L1, hL1⟩ : ∃ L, tInt p.kind = L := ⟨_, rfl⟩
  obtain ⟨L2, hL2⟩ : ∃ L, tInt p.frm = L := ⟨_, rfl⟩
  obtain ⟨L3, hL3⟩ : ∃ L, tInt p.abt = L := ⟨_, rfl⟩
  obtain ⟨L4, hL4⟩ : ∃ L, tInt p.seq = L := ⟨_, rfl⟩
  obtain ⟨L5, hL5⟩ : ∃ L, tList (p.ms.map tMem) = L := ⟨_, rfl⟩
  obtain ⟨L6, hL6⟩ : ∃ L, tList (p.es.map Ent.bytes) = L := ⟨_, rfl⟩
  have LL := Lib.hid (show tList [L1, L2, L3, L4, L5, L6] = L by rw [← hL, ← hL1, ← hL2, ← hL3, ← hL4, ← hL5, ← hL6]; rfl)
  have l1 := tInt_le p.kind (by have := hp.k0; omega) (by have := hp.k1; omega)
  have l2 := tInt_le p.frm (by have := hp.f0; omega) (by have := hp.f1; omega)
  have l3 := tInt_le p.abt (by have := hp.a0; omega) (by have := hp.a1; omega)
  have l4 := tInt_le p.seq hp.s0 hp.s1
  have l5 := mems_le hp
  have l6 := ents_le hp
  have l5' : L5.length = (p.ms.map tMem).flatten.length + 2 := by rw [← hL5]; simp [tList]
  have l6' : L6.length = (p.es.map Ent.bytes).flatten.length + 2 := by rw [← hL6]; simp [tList]
  rw [hL1] at l1
  rw [hL2] at l2
  rw [hL3] at l3
  rw [hL4] at l4
  have LB := Lib.hid (show [L1, L2, L3, L4, L5, L6].flatten.length + 2 ≤ 140737488355328 by simp only [List.flatten_cons, List.flatten_nil, List.length_append, List.length_nil]; omega)
  have LM := Lib.hid (show (p.ms.map tMem).flatten.length + 2 ≤ 140737488355328 by omega)
  have LE := Lib.hid (show (p.es.map Ent.bytes).flatten.length + 2 ≤ 140737488355328 by omega)
  have H1 := Lib.hid hL1
  have H2 := Lib.hid hL2
  have H3 := Lib.hid hL3
  have H4 := Lib.hid hL4
  have H5 := Lib.hid hL5
  have H6 := Lib.hid hL6
  have HWpkind := Lib.hid (show IntKind.i64.wrap p.kind = p.kind from IntWalk.i64_in _ (by have := hp.k0; have := hp.k1; omega))
  have HWpfrm := Lib.hid (show IntKind.i64.wrap p.frm = p.frm from IntWalk.i64_in _ (by have := hp.f0; have := hp.f1; omega))
  have HWpabt := Lib.hid (show IntKind.i64.wrap p.abt = p.abt from IntWalk.i64_in _ (by have := hp.a0; have := hp.a1; omega))
  have ml := hp.ml
  have el := hp.el
  have ml0 : (0 : Int) ≤ p.ms.length := by omega
  have el0 : (0 : Int) ≤ p.es.length := by omega
  clear hp hL hL1 hL2 hL3 hL4 hL5 hL6 l1 l2 l3 l4 l5 l6 l5' l6' hat
  obtain ⟨i0, hi, hz0, hz1, hz2⟩ := info_parts b8sinfo
  obtain ⟨w0, hw0⟩ : ∃ x, x = w.alloc (.cells #[.int .u8 p.kind, .int .u16 p.frm, .int .u16 p.abt, .int .i64 p.seq, .slice A p.ms.length c, .slice B p.es.length d] 50) := ⟨_, rfl⟩
  rw [← hw0] at B0 O0 AT
  go_enter Tryd.func54, Tryd.ntmps54
  go_wp2_with fail
  rw [← hw0]
  clear hw0
  go_loopw [3, 5] (fun m i W => ∃ k : Nat, k ≤ p.ms.length ∧ i = .int .i64 (k : Int) ∧ RL w0 W m k ((p.ms.take k).map tMem) ∧ Only Noth w0 W) (fun _ i _ => p.ms.length - (RowKit.intOf i).toNat)
  case atStart => exact ⟨0, Nat.zero_le _, rfl, RL.nil _ _, Only.refl _ _⟩
  case round =>
    obtain ⟨k, hk, rfl, hrl, ho⟩ := hrel
    have ON := Lib.hid ho
    have RR := Lib.hid hrl
    have c4 : wr.cell? ⟨w.heap.size, 4, none⟩ = some (.slice A p.ms.length c) := (B0.out.only ON.out (fun h => h)).cell 4
    clear ho hrl
    by_cases hlt : k < p.ms.length
    · obtain ⟨x, hx⟩ : ∃ x, p.ms[k]? = some x := ⟨_, List.getElem?_eq_getElem hlt⟩
      have HX := Lib.hid hx
      have hxm : x ∈ p.ms := List.mem_of_getElem? hx
      have HO := Lib.hid (HP.out.m x hxm)
      obtain ⟨h0, A', c', vs, rfl, hrow, hps⟩ := RR.out
      have H0 := Lib.hid h0
      have HR := Lib.hid hrow
      have HS := Lib.hid hps
      obtain ⟨b, o, hBe, hbw, hbl, e0, e1, e2⟩ := ((AT.out.noth ON.out).ms).mem hx
      rw [hBe] at c4 ⊢
      have hb0 : (0 : Int) ≤ k := by omega
      have hb1 : (k : Int) < p.ms.length := by omega
      have hbk : (k : Int) < 9223372036854775807 := by omega
      clear hx hbw hbl hxm h0 hrow hps hBe
      go_wp2_with fail
      refine (ref_member x HO.out _ rfl _).mono ?_
      rintro e w1 ⟨A1, c1, rfl, hs1, ho1, hb2, hb3⟩
      have HS1 := Lib.hid hs1
      have O1 := Lib.hid ho1
      have HB := Lib.hid (show (tMem x).length ≤ c1 ∧ c1 ≤ 9223372036854775807 from ⟨hb2, hb3⟩)
      have HBX := Lib.hid (Hld.new w1 23 #[.slice A1 (tMem x).length c1])
      have hz9 := ho1.size
      clear hs1 ho1 hb2 hb3 c4 e0 e1 e2
      go_wp2_with (at_builtin; refine wpList_append_row _ rfl (.tmp 14) (.tmp 21) 22 rfl 23 i0 (.slice none 0 0) 1 24 Tryd.underlying22 hi hz0 hz1 hz2 rfl (OwnB A' c') _ _ k _ rfl ((HR.out.tight.1.only O1.out (fun _ _ h => h)).alloc _) (some ⟨w1.heap.size, 0, none⟩) 1 1 [.slice A1 (tMem x).length c1] rfl (HBX.out.src 1 rfl) (by intro u hu; simp at hu; subst hu; rfl) (by simp only [maxLen]; omega) (by omega) ?_; intro v2 w2 hrow2 honly2 _; have HR2 := Lib.hid hrow2; have HO2 := Lib.hid honly2; clear hrow2 honly2)
      go_roundw
      case rel =>
        have ha := (Only.refl Noth w1).alloc (.cells #[.slice A1 (tMem x).length c1] 23)
        refine ⟨k + 1, by omega, by go_num, ?_, RL.up HR.out ON.out (O1.out.tr ha) HO2.out⟩
        rw [List.take_add_one, HX.out, Option.toList_some, List.map_append, List.map_cons, List.map_nil]
        exact RL.step H0.out HR.out HS.out HS1.out HB.out.1 HB.out.2 O1.out ha (.inr ha.size) ON.out.size HR2.out HO2.out
      case measure => simp [RowKit.intOf]; omega
    · obtain rfl : k = p.ms.length := by omega
      have h0 := RR.out
      rw [List.take_of_length_le (Nat.le_refl _)] at h0
      have RM := Lib.hid h0
      clear h0
      obtain ⟨wm, rfl⟩ : ∃ x, x = wr := ⟨_, rfl⟩
      have B1 := Lib.hid (B0.out.only ON.out (fun h => h))
      have AT1 := Lib.hid (AT.out.noth ON.out)
      have O1 := Lib.hid (O0.out.tr ON.out)
      clear RR ON
      obtain ⟨Am, cm, vm, rfl, sm, pm, m1, m2⟩ := RM.out.get
      have SM := Lib.hid sm
      have PM := Lib.hid pm
      clear sm pm
      go_wp2_with fail
      go_loopw [4, 6] (fun m i W => ∃ k : Nat, k ≤ p.es.length ∧ i = .int .i64 (k : Int) ∧ RL wm W m k ((p.es.take k).map Ent.bytes) ∧ Only Noth wm W) (fun _ i _ => p.es.length - (RowKit.intOf i).toNat)
      case atStart => exact ⟨0, Nat.zero_le _, rfl, RL.nil _ _, Only.refl _ _⟩
      case round =>
        obtain ⟨k, hk, rfl, hrl, ho⟩ := hrel
        have ON := Lib.hid ho
        have RR := Lib.hid hrl
        have c4 : wr.cell? ⟨w.heap.size, 5, none⟩ = some (.slice B p.es.length d) := (B1.out.only ON.out (fun h => h)).cell 5
        clear ho hrl
        by_cases hlt : k < p.es.length
        · obtain ⟨x, hx⟩ : ∃ x, p.es[k]? = some x := ⟨_, List.getElem?_eq_getElem hlt⟩
          have HX := Lib.hid hx
          have hxm : x ∈ p.es := List.mem_of_getElem? hx
          have HO := Lib.hid (HP.out.e x hxm)
          obtain ⟨h0, A', c', vs, rfl, hrow, hps⟩ := RR.out
          have H0 := Lib.hid h0
          have HR := Lib.hid hrow
          have HS := Lib.hid hps
          obtain ⟨b, o, hBe, hbw, hbl, e0, e1, e2, e3, e4⟩ := ((AT1.out.noth ON.out).es).ent hx
          rw [hBe] at c4 ⊢
          have hb0 : (0 : Int) ≤ k := by omega
          have hb1 : (k : Int) < p.es.length := by omega
          have hbk : (k : Int) < 9223372036854775807 := by omega
          clear hx hbw hbl hxm h0 hrow hps hBe
          go_wp2_with fail
          refine (ref_put x HO.out.1 (by have := HO.out.2; omega) _ rfl _).mono ?_
          rintro e w1 ⟨A1, c1, rfl, hs1, ho1, hb2, hb3⟩
          have HS1 := Lib.hid hs1
          have O1 := Lib.hid ho1
          have HB := Lib.hid (show x.bytes.length ≤ c1 ∧ c1 ≤ 9223372036854775807 from ⟨hb2, hb3⟩)
          have HBX := Lib.hid (Hld.new w1 23 #[.slice A1 x.bytes.length c1])
          have hz9 := ho1.size
          clear hs1 ho1 hb2 hb3 c4 e0 e1 e2 e3 e4
          go_wp2_with (at_builtin; refine wpList_append_row _ rfl (.tmp 30) (.tmp 37) 22 rfl 23 i0 (.slice none 0 0) 1 24 Tryd.underlying22 hi hz0 hz1 hz2 rfl (OwnB A' c') _ _ k _ rfl ((HR.out.tight.1.only O1.out (fun _ _ h => h)).alloc _) (some ⟨w1.heap.size, 0, none⟩) 1 1 [.slice A1 x.bytes.length c1] rfl (HBX.out.src 1 rfl) (by intro u hu; simp at hu; subst hu; rfl) (by simp only [maxLen]; omega) (by omega) ?_; intro v2 w2 hrow2 honly2 _; have HR2 := Lib.hid hrow2; have HO2 := Lib.hid honly2; clear hrow2 honly2)
          go_roundw
          case rel =>
            have ha := (Only.refl Noth w1).alloc (.cells #[.slice A1 x.bytes.length c1] 23)
            refine ⟨k + 1, by omega, by go_num, ?_, RL.up HR.out ON.out (O1.out.tr ha) HO2.out⟩
            rw [List.take_add_one, HX.out, Option.toList_some, List.map_append, List.map_cons, List.map_nil]
            exact RL.step H0.out HR.out HS.out HS1.out HB.out.1 HB.out.2 O1.out ha (.inr ha.size) ON.out.size HR2.out HO2.out
          case measure => simp [RowKit.intOf]; omega
        · obtain rfl : k = p.es.length := by omega
          have h0 := RR.out
          rw [List.take_of_length_le (Nat.le_refl _)] at h0
          have RE := Lib.hid h0
          clear h0
          obtain ⟨Ae, ce, ve, rfl, se, pe, n1, n2⟩ := RE.out.get
          have SE := Lib.hid se
          have PE := Lib.hid pe
          have B := Lib.hid (B1.out.only ON.out (fun h => h))
          have SM2 := Lib.hid ((SM.out.only ON.out (fun _ _ h => h)).mono (G := fun k => k < wr.heap.size) (fun k hk hl => hl))
          have PM2 := Lib.hid (PM.out.noth ON.out)
          have OW := Lib.hid (O1.out.tr ON.out)
          clear ON RR se pe
          have ON := Lib.hid OW.out
          have C5 := Lib.hid (show ∀ W, Only Noth wr W → Calls Tryd.prog 17 #[.slice Am p.ms.length cm] W (GivenP W L5) from fun W ho => by
            have := ref_list Am cm vm (p.ms.map tMem) W (by rw [List.length_map]; exact (SM2.out.only ho (fun _ _ h => h)).mono (fun _ _ h => h)) (PM2.out.noth ho) (by rw [List.length_map]; exact m1) m2 LM.out
            rw [List.length_map, H5.out] at this
            exact this)
          have C6 := Lib.hid (show ∀ W, Only Noth wr W → Calls Tryd.prog 17 #[.slice Ae p.es.length ce] W (GivenP W L6) from fun W ho => by
            have := ref_list Ae ce ve (p.es.map Ent.bytes) W (by rw [List.length_map]; exact (SE.out.only ho (fun _ _ h => h)).mono (fun _ _ h => h)) (PE.out.noth ho) (by rw [List.length_map]; exact n1) n2 LE.out
            rw [List.length_map, H6.out] at this
            exact this)
          go_wp2_with fail
          refine wp_region_N Noth (by kernel_rfl) ?_
          refine wpN_take (i := 0) (d := some 39) rfl rfl (by kernel_rfl) (by kernel_rfl) (by kernel_rfl) (fun _ _ _ h => h) (sure_value (v := .pointer (some ⟨w.heap.size, 0, none⟩)) (by rfl) (fun _ _ => by go_simp)) (Only.refl _ _) ?_
          simp only [Act.put, List.setIfInBounds_toArray, List.set_cons_zero, List.set_cons_succ]
          refine wpN_take (i := 1) (d := some 40) rfl rfl (by kernel_rfl) (by kernel_rfl) (by kernel_rfl) (fun _ _ _ h => h) (sure_lit (v := .int .u8 p.kind) (i := 0) B.out.drew rfl (fun h => h) (by rfl) (fun _ h => by go_simp)) (Only.refl _ _) ?_
          simp only [Act.put, List.setIfInBounds_toArray, List.set_cons_zero, List.set_cons_succ]
          refine wpN_take (i := 2) (d := some 41) rfl rfl (by kernel_rfl) (by kernel_rfl) (by kernel_rfl) (fun _ _ _ h => h) (sure_value (v := .int .i64 p.kind) (by rfl) (fun _ _ => by have hw : IntKind.i64.wrap p.kind = p.kind := HWpkind.out; go_simp)) (Only.refl _ _) ?_
          simp only [Act.put, List.setIfInBounds_toArray, List.set_cons_zero, List.set_cons_succ]
          refine wpN_take (i := 4) (d := some 43) rfl rfl (by kernel_rfl) (by kernel_rfl) (by kernel_rfl) (fun _ _ _ h => h) (sure_value (v := .pointer (some ⟨w.heap.size, 1, none⟩)) (by rfl) (fun _ _ => by go_simp)) (Only.refl _ _) ?_
          simp only [Act.put, List.setIfInBounds_toArray, List.set_cons_zero, List.set_cons_succ]
          refine wpN_take (i := 5) (d := some 44) rfl rfl (by kernel_rfl) (by kernel_rfl) (by kernel_rfl) (fun _ _ _ h => h) (sure_lit (v := .int .u16 p.frm) (i := 1) B.out.drew rfl (fun h => h) (by rfl) (fun _ h => by go_simp)) (Only.refl _ _) ?_
          simp only [Act.put, List.setIfInBounds_toArray, List.set_cons_zero, List.set_cons_succ]
          refine wpN_take (i := 6) (d := some 45) rfl rfl (by kernel_rfl) (by kernel_rfl) (by kernel_rfl) (fun _ _ _ h => h) (sure_value (v := .int .i64 p.frm) (by rfl) (fun _ _ => by have hw : IntKind.i64.wrap p.frm = p.frm := HWpfrm.out; go_simp)) (Only.refl _ _) ?_
          simp only [Act.put, List.setIfInBounds_toArray, List.set_cons_zero, List.set_cons_succ]
          refine wpN_take (i := 8) (d := some 47) rfl rfl (by kernel_rfl) (by kernel_rfl) (by kernel_rfl) (fun _ _ _ h => h) (sure_value (v := .pointer (some ⟨w.heap.size, 2, none⟩)) (by rfl) (fun _ _ => by go_simp)) (Only.refl _ _) ?_
          simp only [Act.put, List.setIfInBounds_toArray, List.set_cons_zero, List.set_cons_succ]
          refine wpN_take (i := 9) (d := some 48) rfl rfl (by kernel_rfl) (by kernel_rfl) (by kernel_rfl) (fun _ _ _ h => h) (sure_lit (v := .int .u16 p.abt) (i := 2) B.out.drew rfl (fun h => h) (by rfl) (fun _ h => by go_simp)) (Only.refl _ _) ?_
          simp only [Act.put, List.setIfInBounds_toArray, List.set_cons_zero, List.set_cons_succ]
          refine wpN_take (i := 10) (d := some 49) rfl rfl (by kernel_rfl) (by kernel_rfl) (by kernel_rfl) (fun _ _ _ h => h) (sure_value (v := .int .i64 p.abt) (by rfl) (fun _ _ => by have hw : IntKind.i64.wrap p.abt = p.abt := HWpabt.out; go_simp)) (Only.refl _ _) ?_
          simp only [Act.put, List.setIfInBounds_toArray, List.set_cons_zero, List.set_cons_succ]
          refine wpN_take (i := 12) (d := some 51) rfl rfl (by kernel_rfl) (by kernel_rfl) (by kernel_rfl) (fun _ _ _ h => h) (sure_value (v := .pointer (some ⟨w.heap.size, 3, none⟩)) (by rfl) (fun _ _ => by go_simp)) (Only.refl _ _) ?_
          simp only [Act.put, List.setIfInBounds_toArray, List.set_cons_zero, List.set_cons_succ]
          refine wpN_take (i := 13) (d := some 52) rfl rfl (by kernel_rfl) (by kernel_rfl) (by kernel_rfl) (fun _ _ _ h => h) (sure_lit (v := .int .i64 p.seq) (i := 3) B.out.drew rfl (fun h => h) (by rfl) (fun _ h => by go_simp)) (Only.refl _ _) ?_
          simp only [Act.put, List.setIfInBounds_toArray, List.set_cons_zero, List.set_cons_succ]
          refine wpN_take (i := 15) (d := some 54) rfl rfl (by kernel_rfl) (by kernel_rfl) (by kernel_rfl) (fun _ _ _ h => h) (sure_value (v := .slice Am p.ms.length cm) (by rfl) (fun _ _ => rfl)) (Only.refl _ _) ?_
          simp only [Act.put, List.setIfInBounds_toArray, List.set_cons_zero, List.set_cons_succ]
          refine wpN_take (i := 17) (d := some 56) rfl rfl (by kernel_rfl) (by kernel_rfl) (by kernel_rfl) (fun _ _ _ h => h) (sure_value (v := .slice Ae p.es.length ce) (by rfl) (fun _ _ => rfl)) (Only.refl _ _) ?_
          simp only [Act.put, List.setIfInBounds_toArray, List.set_cons_zero, List.set_cons_succ]
          have ON0 := Lib.hid ON.out.drew
          have Q0 := Lib.hid ((Only.refl Noth wr).drew)
          have P0 := Lib.hid (Parts.nil (wr.drew))
          refine wpN_givenp (i := 3) (d := some 42) (L := L1) (fun w1 ho => rint_L H1.out _ (by have := HP.out.k0; omega) (by have := HP.out.k1; omega)) (Only.refl _ _) (by kernel_rfl) rfl rfl (by rfl) (fun _ => by go_simp) ?_
          intro A1 c1 w1 hp ho
          have P1 := Lib.hid ((P0.out.noth ho).snoc hp)
          have ON1 := Lib.hid (ON0.out.tr ho)
          have Q1 := Lib.hid (Q0.out.tr ho)
          clear hp ho
          simp only [Act.put, List.setIfInBounds_toArray, List.set_cons_zero, List.set_cons_succ]
          refine wpN_givenp (i := 7) (d := some 46) (L := L2) (fun w1 ho => rint_L H2.out _ (by have := HP.out.f0; omega) (by have := HP.out.f1; omega)) (Only.refl _ _) (by kernel_rfl) rfl rfl (by rfl) (fun _ => by go_simp) ?_
          intro A2 c2 w2 hp ho
          have P2 := Lib.hid ((P1.out.noth ho).snoc hp)
          have ON2 := Lib.hid (ON1.out.tr ho)
          have Q2 := Lib.hid (Q1.out.tr ho)
          clear hp ho
          simp only [Act.put, List.setIfInBounds_toArray, List.set_cons_zero, List.set_cons_succ]
          refine wpN_givenp (i := 11) (d := some 50) (L := L3) (fun w1 ho => rint_L H3.out _ (by have := HP.out.a0; omega) (by have := HP.out.a1; omega)) (Only.refl _ _) (by kernel_rfl) rfl rfl (by rfl) (fun _ => by go_simp) ?_
          intro A3 c3 w3 hp ho
          have P3 := Lib.hid ((P2.out.noth ho).snoc hp)
          have ON3 := Lib.hid (ON2.out.tr ho)
          have Q3 := Lib.hid (Q2.out.tr ho)
          clear hp ho
          simp only [Act.put, List.setIfInBounds_toArray, List.set_cons_zero, List.set_cons_succ]
          refine wpN_givenp (i := 14) (d := some 53) (L := L4) (fun w1 ho => rint_L H4.out _ HP.out.s0 HP.out.s1) (Only.refl _ _) (by kernel_rfl) rfl rfl (by rfl) (fun _ => by go_simp) ?_
          intro A4 c4 w4 hp ho
          have P4 := Lib.hid ((P3.out.noth ho).snoc hp)
          have ON4 := Lib.hid (ON3.out.tr ho)
          have Q4 := Lib.hid (Q3.out.tr ho)
          clear hp ho
          simp only [Act.put, List.setIfInBounds_toArray, List.set_cons_zero, List.set_cons_succ]
          refine wpN_givenp (i := 16) (d := some 55) (L := L5) (fun w1 ho => C5.out _ (Q4.out.tr ho)) (Only.refl _ _) (by kernel_rfl) rfl rfl (by rfl) (fun _ => by go_simp) ?_
          intro A5 c5 w5 hp ho
          have P5 := Lib.hid ((P4.out.noth ho).snoc hp)
          have ON5 := Lib.hid (ON4.out.tr ho)
          have Q5 := Lib.hid (Q4.out.tr ho)
          clear hp ho
          simp only [Act.put, List.setIfInBounds_toArray, List.set_cons_zero, List.set_cons_succ]
          refine wpN_givenp (i := 18) (d := some 57) (L := L6) (fun w1 ho => C6.out _ (Q5.out.tr ho)) (Only.refl _ _) (by kernel_rfl) rfl rfl (by rfl) (fun _ => by go_simp) ?_
          intro A6 c6 w6 hp ho
          have P6 := Lib.hid ((P5.out.noth ho).snoc hp)
          have ON6 := Lib.hid (ON5.out.tr ho)
          have Q6 := Lib.hid (Q5.out.tr ho)
          clear hp ho
          simp only [Act.put, List.setIfInBounds_toArray, List.set_cons_zero, List.set_cons_succ]
          refine wpN_build (m := 6) (i := 19) (d := some 58) (z := #[.slice A1 L1.length c1, .slice A2 L2.length c2, .slice A3 L3.length c3, .slice A4 L4.length c4, .slice A5 L5.length c5, .slice A6 L6.length c6]) (t := 23) (by kernel_rfl) rfl rfl (by rfl) (Only.refl _ _) (fun _ => by go_simp) ?_
          intro w7 p9 ho HB hp9
          simp only [Act.put, List.setIfInBounds_toArray, List.set_cons_zero, List.set_cons_succ]
          refine wpN_rebase ho ?_
          have ON7 := Lib.hid (ON6.out.tr ho)
          have PP := Lib.hid (P6.out.noth ho)
          have HBB := Lib.hid HB
          clear ho HB
          refine wpN_givenn (i := 20) (d := some 59) (L := L) (fun w1 ho => by have := ref_list_n (some ⟨p9, 0, none⟩) 6 _ [L1, L2, L3, L4, L5, L6] _ (((HBB.out.src 6 rfl).only ho (fun _ _ h => h)).mono (fun k h hl => hl)) (PP.out.noth ho) (Nat.le_refl _) (by simp) LB.out; rw [LL.out] at this; exact this) (Only.refl _ _) (by kernel_rfl) rfl rfl (by rfl) (fun _ => by go_simp) ?_
          intro A9 c9 w9 hp9 hb9 ho9
          have HP9 := Lib.hid hp9
          have HB9 := Lib.hid hb9
          have ON9 := Lib.hid (ON7.out.tr ho9)
          clear hp9 hb9 ho9
          simp only [Act.put, List.setIfInBounds_toArray, List.set_cons_zero, List.set_cons_succ]
          refine wpN_take (i := 21) (d := some 2) rfl rfl (by kernel_rfl) (by kernel_rfl) (by kernel_rfl) (fun _ _ _ h => h) (sure_value (v := .slice A9 L.length c9) (by rfl) (fun _ _ => rfl)) (Only.refl _ _) ?_
          simp only [Act.put, List.setIfInBounds_toArray, List.set_cons_zero, List.set_cons_succ]
          refine wpN_done (by kernel_rfl) (fun w10 ho => ?_) _
          go_wp2
          go_ret
          have hz := ON7.out.size
          exact ⟨A9, c9, rfl, (HP9.out.only ho (fun _ _ h => h)).mono (fun j hj _ => by unfold New at hj ⊢; omega), ON9.out.tr ho, HB9.out⟩
end Go.Proofs.YtjdgmnaemopfdaaDoor
namespace Go.Proofs.YtjdgmnaemopfdaaDoor
open Go.RowKit Go.Lib
set_option linter.unusedVariables false
set_option maxRecDepth 100000
attribute [local go_sem ↓] Go.wp_at_zero Go.wp_at_succ

theorem check_any {p : Pkt} (h : ∃ m ∈ p.ms, m.wrong = true) : p.check = 14 := by
  unfold Pkt.check
  rw [if_pos]
  exact .inr (.inr (.inr (.inr (.inr (.inr (.inr (by rw [List.any_eq_true]; exact h)))))))
theorem any_none {l : List Mem} (h : ∀ m ∈ l, m.wrong = false) : l.any Mem.wrong = false := by
  rw [List.any_eq_false]
  intro m hm
  rw [h m hm]
  decide
set_option maxHeartbeats 4000000 in
theorem ref_pcheck (A : Option Addr) (c : Nat) (B : Option Addr) (d : Nat) (p : Pkt) (hp : p.Fit) (w : World) (hat : PkAt w A c B d p) : Calls Tryd.prog 53 #[.agg #[.int .u8 p.kind, .int .u16 p.frm, .int .u16 p.abt, .int .i64 p.seq, .slice A p.ms.length c, .slice B p.es.length d]] w
    fun e w' => e = .returned (.int .i64 p.check) ∧ Only Noth w w' := by
  have HP := Lib.hid hp
  have B0 := Lib.hid (Hld.new w 50 #[.int .u8 p.kind, .int .u16 p.frm, .int .u16 p.abt, .int .i64 p.seq, .slice A p.ms.length c, .slice B p.es.length d])
  have ON := Lib.hid ((Only.refl Noth w).alloc (.cells #[.int .u8 p.kind, .int .u16 p.frm, .int .u16 p.abt, .int .i64 p.seq, .slice A p.ms.length c, .slice B p.es.length d] 50))
  have AT := Lib.hid (hat.noth ON.out)
  have ml0 : (0 : Int) ≤ p.ms.length := by omega
  have el0 : (0 : Int) ≤ p.es.length := by omega
  clear hat hp
  obtain ⟨w0, hw0⟩ : ∃ x, x = w.alloc (.cells #[.int .u8 p.kind, .int .u16 p.frm, .int .u16 p.abt, .int .i64 p.seq, .slice A p.ms.length c, .slice B p.es.length d] 50) := ⟨_, rfl⟩
  rw [← hw0] at B0 ON AT
  go_enter Tryd.func53, Tryd.ntmps53
  go_wp2_with fail
  all_goals rw [← hw0]
  all_goals clear hw0
  all_goals first
    | (go_ret; refine ⟨ret_num ?_, ON.out⟩; unfold Pkt.check; rw [if_pos (by omega)]; done)
    | skip
  go_loopw [3] (fun i W => ∃ k : Nat, k ≤ p.ms.length ∧ i = .int .i64 (k : Int) ∧ (∀ m ∈ p.ms.take k, m.wrong = false) ∧ Only Noth w0 W) (fun i _ => p.ms.length - (RowKit.intOf i).toNat)
  case atStart => exact ⟨0, Nat.zero_le _, rfl, by simp, Only.refl _ _⟩
  case round =>
    obtain ⟨k, hk, rfl, ha, ho⟩ := hrel
    have HA := Lib.hid ha
    have ON1 := Lib.hid ho
    have OX := Lib.hid (ON.out.tr ho)
    have c4 : wr.cell? ⟨w.heap.size, 4, none⟩ = some (.slice A p.ms.length c) := (B0.out.only ho (fun h => h)).cell 4
    clear ha ho
    by_cases hlt : k < p.ms.length
    · obtain ⟨x, hx⟩ : ∃ x, p.ms[k]? = some x := ⟨_, List.getElem?_eq_getElem hlt⟩
      have HX := Lib.hid hx
      obtain ⟨b, o, hBe, hbw, hbl, e0, e1, e2⟩ := ((AT.out.noth ON1.out).ms).mem hx
      rw [hBe] at c4 ⊢
      have hb0 : (0 : Int) ≤ k := by omega
      have hb1 : (k : Int) < p.ms.length := by omega
      clear hx hbw hbl hBe
      go_wp2_with fail
      refine (ref_okm x _).mono ?_
      rintro e w1 ⟨rfl, ho1⟩
      have O1 := Lib.hid ho1
      clear ho1 c4 e0 e1 e2
      cases hw : x.wrong
      · have HW := Lib.hid hw
        clear hw
        go_wp2_with fail
        go_roundw
        case rel =>
          refine ⟨k + 1, by omega, by go_num, ?_, ON1.out.tr O1.out⟩
          rw [List.take_add_one, HX.out]
          intro m hm
          rcases List.mem_append.1 hm with hm | hm
          · exact HA.out m hm
          · simp at hm
            subst hm
            exact HW.out
        case measure => simp [RowKit.intOf]; omega
      · have HC := Lib.hid (check_any ⟨x, List.mem_of_getElem? HX.out, hw⟩)
        clear hw
        go_wp2
        go_ret
        exact ⟨ret_num HC.out.symm, OX.out.tr O1.out⟩
    · obtain rfl : k = p.ms.length := by omega
      have h0 := HA.out
      rw [List.take_of_length_le (Nat.le_refl _)] at h0
      have HBB := Lib.hid (any_none h0)
      obtain ⟨wm, rfl⟩ : ∃ x, x = wr := ⟨_, rfl⟩
      have BX := Lib.hid (B0.out.only ON1.out (fun h => h))
      have AT1 := Lib.hid (AT.out.noth ON1.out)
      clear h0 HA
      go_wp2_with fail
      go_loopw [4] (fun i W => (∃ k : Nat, k ≤ p.es.length ∧ i = .int .i64 (k : Int) ∧ firstBad p.es = firstBad (p.es.drop k)) ∧ Only Noth wm W) (fun i _ => p.es.length - (RowKit.intOf i).toNat)
      case atStart => exact ⟨⟨0, Nat.zero_le _, rfl, rfl⟩, Only.refl _ _⟩
      case round =>
        obtain ⟨⟨k, hk, rfl, ha⟩, ho⟩ := hrel
        have ON2 := Lib.hid ho
        have HA := Lib.hid ha
        have c5 : wr.cell? ⟨w.heap.size, 5, none⟩ = some (.slice B p.es.length d) := (BX.out.only ho (fun h => h)).cell 5
        clear ho ha
        by_cases hlt : k < p.es.length
        · obtain ⟨x, hx⟩ : ∃ x, p.es[k]? = some x := ⟨_, List.getElem?_eq_getElem hlt⟩
          have HX := Lib.hid (HP.out.e x (List.mem_of_getElem? hx))
          have HD := Lib.hid (show firstBad p.es = firstBad (x :: p.es.drop (k + 1)) by rw [HA.out, List.drop_eq_getElem_cons hlt]; rw [List.getElem?_eq_getElem hlt] at hx; cases hx; rfl)
          obtain ⟨b, o, hBe, hbw, hbl, e0, e1, e2, e3, e4⟩ := ((AT1.out.noth ON2.out).es).ent hx
          rw [hBe] at c5 ⊢
          have hb0 : (0 : Int) ≤ k := by omega
          have hb1 : (k : Int) < p.es.length := by omega
          clear hx hbw hbl hBe
          go_wp2_with fail
          refine (ref_check x HX.out.2.1 HX.out.2.2 _).mono ?_
          rintro e w2 ⟨rfl, ho1⟩
          have ON3 := Lib.hid (ON2.out.tr ho1)
          clear ho1 e0 e1 e2 e3 e4 c5
          by_cases h0 : x.check = 0
          · have HD1 := Lib.hid (show firstBad p.es = firstBad (p.es.drop (k + 1)) by rw [HD.out, firstBad, if_pos h0])
            rw [h0]
            go_wp2_with fail
            go_roundw
            case rel => exact ⟨⟨k + 1, by omega, by go_num, HD1.out⟩, ON3.out⟩
            case measure => simp [RowKit.intOf]; omega
          · have HD1 := Lib.hid (show firstBad p.es = x.check by rw [HD.out, firstBad, if_neg h0])
            go_wp2
            go_ret
            refine ⟨ret_num ?_, OX.out.tr ON3.out⟩
            unfold Pkt.check
            rw [if_neg, if_pos, HD1.out]
            · rw [HD1.out]; exact h0
            · simp only [HBB.out, Bool.false_eq_true, or_false]
              omega
        · obtain rfl : k = p.es.length := by omega
          have h0 := HA.out
          rw [List.drop_of_length_le (Nat.le_refl _)] at h0
          have H0 := Lib.hid h0
          have O3 := Lib.hid (OX.out.tr ON2.out)
          obtain ⟨c0, c1, c2, c3, c4', c5'⟩ := (BX.out.only ON2.out (fun h => h)).six
          have OK := Lib.hid (HP.out.ok (by omega) (by omega) H0.out)
          have HC := Lib.hid (show p.check = if 16384 < p.bytes.length then 5 else 0 by
            unfold Pkt.check
            rw [if_neg, if_neg]
            · rw [H0.out]; simp [firstBad]
            · simp only [HBB.out, Bool.false_eq_true, or_false]
              omega)
          clear h0
          go_wp2_with fail
          refine (ref_lay A c B d p OK.out _ rfl _ (AT1.out.noth ON2.out)).mono ?_
          rintro e w3 ⟨A3, c3, rfl, -, ho3, -, -⟩
          have ON4 := Lib.hid (O3.out.tr ho3)
          clear ho3
          go_wp2
          all_goals go_ret
          all_goals refine ⟨ret_num ?_, ON4.out⟩
          all_goals rw [HC.out]
          all_goals split
          all_goals first | rfl | omega
/-- What the reference's Put gives. -/
def RPutAns (p : Pkt) (s : Value) (w' : World) : Prop := if p.check = 0 then ∃ A c, s = .slice A p.bytes.length c ∧ Part w' s p.bytes else s = .slice none 0 0
set_option maxHeartbeats 2000000 in
theorem ref_pput (A : Option Addr) (c : Nat) (B : Option Addr) (d : Nat) (p : Pkt) (hp : p.Fit) (w : World) (hat : PkAt w A c B d p) : Calls Tryd.prog 32 #[.agg #[.int .u8 p.kind, .int .u16 p.frm, .int .u16 p.abt, .int .i64 p.seq, .slice A p.ms.length c, .slice B p.es.length d]] w
    fun e w' => (∃ s : Value, e = .returned (.tuple #[s, .int .i64 p.check]) ∧ RPutAns p s w') ∧ Only Noth w w' := by
  have HP := Lib.hid hp
  have B0 := Lib.hid (Hld.new w 50 #[.int .u8 p.kind, .int .u16 p.frm, .int .u16 p.abt, .int .i64 p.seq, .slice A p.ms.length c, .slice B p.es.length d])
  have ON := Lib.hid ((Only.refl Noth w).alloc (.cells #[.int .u8 p.kind, .int .u16 p.frm, .int .u16 p.abt, .int .i64 p.seq, .slice A p.ms.length c, .slice B p.es.length d] 50))
  have AT := Lib.hid hat
  clear hat hp
  go_enter Tryd.func32, Tryd.ntmps32
  go_wp2_with fail
  refine (ref_pcheck A c B d p HP.out _ (AT.out.noth ON.out)).mono ?_
  rintro e w1 ⟨rfl, ho⟩
  have ON1 := Lib.hid (ON.out.tr ho)
  obtain ⟨c0, c1, c2, c3, c4, c5⟩ := (B0.out.only ho (fun h => h)).six
  clear ho
  by_cases h0 : p.check = 0
  · have OK := Lib.hid (HP.out.ok0 h0)
    have H0 := Lib.hid h0
    rw [h0]
    clear h0
    go_wp2_with fail
    refine (ref_lay A c B d p OK.out _ rfl _ (AT.out.noth ON1.out)).mono ?_
    rintro e w3 hg
    obtain ⟨A3, c3, rfl, hp3, ho3⟩ := hg.p
    have ON4 := Lib.hid (ON1.out.tr ho3)
    have HP3 := Lib.hid hp3
    clear hp3 ho3 hg
    go_wp2
    refine bodyPost_ret (v := .tuple #[.slice A3 p.bytes.length c3, .int .i64 0]) (by simp [results, Tryd.results32, go_sem]) rfl ?_
    exact ⟨⟨_, by rw [H0.out], by unfold RPutAns; rw [if_pos H0.out]; exact ⟨_, _, rfl, HP3.out⟩⟩, ON4.out⟩
  · have H0 := Lib.hid h0
    go_wp2
    all_goals first | (exfalso; exact H0.out (by assumption)) | skip
    refine bodyPost_ret (v := .tuple #[.slice none 0 0, .int .i64 p.check]) (by simp [results, Tryd.results32, go_sem]) rfl ?_
    exact ⟨⟨_, rfl, by unfold RPutAns; rw [if_neg H0.out]⟩, ON1.out⟩
end Go.Proofs.YtjdgmnaemopfdaaDoor
