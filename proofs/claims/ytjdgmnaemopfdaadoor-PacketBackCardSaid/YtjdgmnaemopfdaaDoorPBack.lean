/- Layer 13: what is put is read as it was. -/
import Derived.Test.YtjdgmnaemopfdaaDoorPkB
import Derived.Test.YtjdgmnaemopfdaaDoorSameP
import Derived.Test.YtjdgmnaemopfdaaDoorMore
namespace Go.Proofs.YtjdgmnaemopfdaaDoor
open Go.RowKit Go.Lib
set_option linter.unusedVariables false
set_option maxRecDepth 100000
attribute [local go_sem ↓] Go.wp_at_zero Go.wp_at_succ

def pk0 : Pkt := ⟨0, 0, 0, 0, [], []⟩
theorem pk0_at (w : World) : PkAt w none 0 none 0 pk0 := ⟨fun h => absurd h (by simp [pk0]), fun h => absurd h (by simp [pk0]), Nat.le_refl _, by decide, Nat.le_refl _, by decide⟩
theorem pk0_same (w : World) : Calls Tryd.prog 39 #[.agg #[.int .u8 0, .int .u16 0, .int .u16 0, .int .i64 0, .slice none 0 0, .slice none 0 0], .agg #[.int .u8 0, .int .u16 0, .int .u16 0, .int .i64 0, .slice none 0 0, .slice none 0 0]] w
    fun e w' => e = .returned (.bool true) ∧ Only Noth w w' := by
  refine (pk_same none 0 none 0 pk0 none 0 none 0 pk0 w (pk0_at w) (pk0_at w)).mono ?_
  rintro e w' ⟨⟨b, rfl, hb⟩, ho⟩
  rw [hb.2 rfl]
  exact ⟨rfl, ho⟩
theorem put_no {w w' : World} {p : Pkt} {s : Value} (h : PutAns w p s w') (h0 : p.check ≠ 0) : s = .slice none 0 0 := by
  unfold PutAns at h
  rw [if_neg h0] at h
  exact h
theorem read_nil (w : World) (he : Env w) : Calls Tryd.prog 35 #[.slice none 0 0] w fun e w' => e = .returned (.tuple #[.agg (pkc 0 0 0 0 none 0 0 none 0 0), .int .i64 14]) ∧ Only Noth w w' := by
  obtain ⟨x, hx⟩ := parse_some []
  refine (pk_read none 0 [] x hx w ⟨none, 0, rfl, Src.none_ _ _ _ _, Nat.le_refl _, by decide⟩ he).mono ?_
  rintro e w' ⟨hr, ho⟩
  unfold ReadAns at hr
  rw [if_neg (fun h => by have := h.2.2; rw [pbytes_app] at this; cases this)] at hr
  exact ⟨hr, ho⟩
/-- What is laid is read, in memory. -/
theorem read_laid (A : Option Addr) (c : Nat) (p : Pkt) (hf : p.Fit) (h0 : p.check = 0) (w : World) (hl : Part w (.slice A p.bytes.length c) p.bytes) (he : Env w) : Calls Tryd.prog 35 #[.slice A p.bytes.length c] w
    fun e w' => (∃ A c B d, e = .returned (.tuple #[.agg (pkc p.kind p.frm p.abt p.seq A p.ms.length c B p.es.length d), .int .i64 0]) ∧ PkAt w' A c B d p) ∧ Only Noth w w' := by
  obtain ⟨x, hx⟩ := parse_some p.bytes
  have e := parse_laid hf h0 hx
  subst e
  refine (pk_read A c _ x hx w hl he).mono ?_
  rintro e w' ⟨hr, ho⟩
  unfold ReadAns at hr
  rw [if_pos ⟨(pcheck_zero.1 h0).2.2, h0, rfl⟩] at hr
  exact ⟨hr, ho⟩
set_option maxHeartbeats 8000000 in
theorem pback_walk (A : Option Addr) (c : Nat) (B : Option Addr) (d : Nat) (p : Pkt) (hf : p.Fit) (R : Option Addr) (rc : Nat) (l : List UInt8) (w : World) (hat : PkAt w A c B d p) (hl : Part w (.slice R l.length rc) l) (he : Env w) : Calls Tryd.prog 10 #[.agg #[.int .u8 p.kind, .int .u16 p.frm, .int .u16 p.abt, .int .i64 p.seq, .slice A p.ms.length c, .slice B p.es.length d], .slice R l.length rc] w
    fun e w' => e = .returned (.bool true) ∧ Only Noth w w' := by
  have E := Lib.hid he
  have HP := Lib.hid hf
  have AT := Lib.hid hat
  have RL := Lib.hid hl
  have B0 := Lib.hid (Hld.new w 50 #[.int .u8 p.kind, .int .u16 p.frm, .int .u16 p.abt, .int .i64 p.seq, .slice A p.ms.length c, .slice B p.es.length d])
  have ON := Lib.hid ((Only.refl Noth w).alloc (.cells #[.int .u8 p.kind, .int .u16 p.frm, .int .u16 p.abt, .int .i64 p.seq, .slice A p.ms.length c, .slice B p.es.length d] 50))
  have HK := Lib.hid (show ∀ e ∈ p.es, e.key.size ≤ 9223372036854775807 ∧ e.val.size ≤ 9223372036854775807 from fun e h => (hf.e e h).2)
  obtain ⟨y, hy⟩ := parse_some l
  have HY := Lib.hid hy
  clear he hf hat hl hy
  go_enter Tryd.func10, Tryd.ntmps10
  go_wp2_with fail
  refine (pk_read R rc l y HY.out _ (RL.out.noth ON.out) (E.out.noth ON.out)).mono ?_
  rintro e w1 ⟨hr, ho⟩
  unfold ReadAns at hr
  have ON1 := Lib.hid (ON.out.tr ho)
  have B1 := Lib.hid (B0.out.only ho (fun h => h))
  clear ho
  by_cases hz : l.length ≤ 16384 ∧ y.check = 0 ∧ y.bytes = l
  · rw [if_pos hz] at hr
    obtain ⟨A1, c1, B1', d1, rfl, hpa⟩ := hr
    obtain ⟨hz1, hz2, hz3⟩ := hz
    have PA := Lib.hid hpa
    subst hz3
    have Z2 := Lib.hid hz2
    have OX := Lib.hid (ON1.out.alloc (.cells (pkc y.kind y.frm y.abt y.seq A1 y.ms.length c1 B1' y.es.length d1) 50))
    have BX := Lib.hid (B1.out.only ((Only.refl Noth w1).alloc (.cells (pkc y.kind y.frm y.abt y.seq A1 y.ms.length c1 B1' y.es.length d1) 50)) (fun h => h))
    clear hz1 hz2 hpa
    go_wp2_with fail
    refine (pk_put A1 c1 B1' d1 y (parse_fit HY.out) _ (PA.out.noth ((Only.refl Noth w1).alloc (.cells (pkc y.kind y.frm y.abt y.seq A1 y.ms.length c1 B1' y.es.length d1) 50))) (E.out.noth OX.out).tab).mono ?_
    rintro e w2 ⟨⟨s, rfl, hs⟩, ho⟩
    obtain ⟨A2, c2, rfl, hp2⟩ := put_ok hs Z2.out
    rw [Z2.out]
    have ON2 := Lib.hid (OX.out.tr ho)
    have B2 := Lib.hid (BX.out.only ho (fun h => h))
    have hcv := hp2.conv
    have hcv2 := (RL.out.noth ON2.out).conv
    clear ho hs hp2
    obtain ⟨c0, c1', c2', c3, c4, c5⟩ := B2.out.six
    go_wp2_with fail
    refine (pk_light A c B d p HK.out _ (AT.out.noth ON2.out)).mono ?_
    rintro e w3 ⟨⟨b, rfl, hb⟩, ho⟩
    have ON3 := Lib.hid (ON2.out.tr ho)
    have B3 := Lib.hid (B2.out.only ho (fun h => h))
    clear ho hb c0 c1' c2' c3 c4 c5 hcv hcv2
    cases b
    · go_wp2_with fail
      refine (pk_awake _ (E.out.noth ON3.out)).mono ?_
      rintro e w4 ⟨rfl, ho⟩
      have ON4 := Lib.hid (ON3.out.tr ho)
      clear ho
      go_wp2
      go_ret
      exact ⟨rfl, ON4.out⟩
    obtain ⟨c0, c1', c2', c3, c4, c5⟩ := B3.out.six
    go_wp2_with fail
    refine (pk_put A c B d p HP.out _ (AT.out.noth ON3.out) (E.out.noth ON3.out).tab).mono ?_
    rintro e w4 ⟨⟨s, rfl, hs⟩, ho⟩
    have ON4 := Lib.hid (ON3.out.tr ho)
    have B4 := Lib.hid (B3.out.only ho (fun h => h))
    clear ho c0 c1' c2' c3 c4 c5
    by_cases h0 : p.check = 0
    · obtain ⟨A5, c5', rfl, hp5⟩ := put_ok hs h0
      have H0 := Lib.hid h0
      have HL : (p.bytes.length : Int) ≤ 16384 := by have := (pcheck_zero.1 h0).2.2; omega
      rw [h0]
      have P5 := Lib.hid hp5
      clear h0 hs hp5
      go_wp2_with fail
      refine (read_laid A5 c5' p HP.out H0.out _ P5.out (E.out.noth ON4.out)).mono ?_
      rintro e w5 ⟨⟨A6, c6, B6, d6, rfl, hpa⟩, ho⟩
      have ON5 := Lib.hid (ON4.out.tr ho)
      have B5 := Lib.hid (B4.out.only ho (fun h => h))
      have PA5 := Lib.hid hpa
      have O5 := Lib.hid ((Only.refl Noth w5).alloc (.cells (pkc p.kind p.frm p.abt p.seq A6 p.ms.length c6 B6 p.es.length d6) 50))
      obtain ⟨c0, c1', c2', c3, c4, c5⟩ := (B5.out.only O5.out (fun h => h)).six
      clear ho hpa
      go_wp2_with fail
      refine (pk_same A6 c6 B6 d6 p A c B d p _ (PA5.out.noth O5.out) (AT.out.noth (ON5.out.tr O5.out))).mono ?_
      rintro e w6 ⟨⟨b, rfl, hb⟩, ho⟩
      rw [hb.2 rfl]
      have ON6 := Lib.hid ((ON5.out.tr O5.out).tr ho)
      clear ho hb c0 c1' c2' c3 c4 c5
      go_wp2_with fail
      refine (pk_awake _ (E.out.noth ON6.out)).mono ?_
      rintro e w7 ⟨rfl, ho⟩
      have ON7 := Lib.hid (ON6.out.tr ho)
      clear ho
      go_wp2
      go_ret
      exact ⟨rfl, ON7.out⟩
    · obtain rfl := put_no hs h0
      clear hs
      go_wp2_with fail
      refine (read_nil _ (E.out.noth ON4.out)).mono ?_
      rintro e w5 ⟨rfl, ho⟩
      have ON5 := Lib.hid ((ON4.out.tr ho).alloc (.cells (pkc 0 0 0 0 none 0 0 none 0 0) 50))
      clear ho
      go_wp2_with fail
      all_goals first | (exfalso; exact h0 (by assumption)) | skip
      refine (pk_awake _ (E.out.noth ON5.out)).mono ?_
      rintro e w7 ⟨rfl, ho⟩
      have ON7 := Lib.hid (ON5.out.tr ho)
      clear ho
      go_wp2
      go_ret
      exact ⟨ret_bool (by simpa using h0), ON7.out⟩
  · rw [if_neg hz] at hr
    subst hr
    have OX := Lib.hid (ON1.out.alloc (.cells (pkc 0 0 0 0 none 0 0 none 0 0) 50))
    have BX := Lib.hid (B1.out.only ((Only.refl Noth w1).alloc (.cells (pkc 0 0 0 0 none 0 0 none 0 0) 50)) (fun h => h))
    clear hz
    go_wp2_with fail
    refine (pk0_same _).mono ?_
    rintro e w2 ⟨rfl, ho⟩
    have ON2 := Lib.hid (OX.out.tr ho)
    have B2 := Lib.hid (BX.out.only ho (fun h => h))
    clear ho
    obtain ⟨c0, c1', c2', c3, c4, c5⟩ := B2.out.six
    go_wp2_with fail
    refine (pk_light A c B d p HK.out _ (AT.out.noth ON2.out)).mono ?_
    rintro e w3 ⟨⟨b, rfl, hb⟩, ho⟩
    have ON3 := Lib.hid (ON2.out.tr ho)
    have B3 := Lib.hid (B2.out.only ho (fun h => h))
    clear ho hb c0 c1' c2' c3 c4 c5 
    cases b
    · go_wp2_with fail
      refine (pk_awake _ (E.out.noth ON3.out)).mono ?_
      rintro e w4 ⟨rfl, ho⟩
      have ON4 := Lib.hid (ON3.out.tr ho)
      clear ho
      go_wp2
      go_ret
      exact ⟨rfl, ON4.out⟩
    obtain ⟨c0, c1', c2', c3, c4, c5⟩ := B3.out.six
    go_wp2_with fail
    refine (pk_put A c B d p HP.out _ (AT.out.noth ON3.out) (E.out.noth ON3.out).tab).mono ?_
    rintro e w4 ⟨⟨s, rfl, hs⟩, ho⟩
    have ON4 := Lib.hid (ON3.out.tr ho)
    have B4 := Lib.hid (B3.out.only ho (fun h => h))
    clear ho c0 c1' c2' c3 c4 c5
    by_cases h0 : p.check = 0
    · obtain ⟨A5, c5', rfl, hp5⟩ := put_ok hs h0
      have H0 := Lib.hid h0
      have HL : (p.bytes.length : Int) ≤ 16384 := by have := (pcheck_zero.1 h0).2.2; omega
      rw [h0]
      have P5 := Lib.hid hp5
      clear h0 hs hp5
      go_wp2_with fail
      refine (read_laid A5 c5' p HP.out H0.out _ P5.out (E.out.noth ON4.out)).mono ?_
      rintro e w5 ⟨⟨A6, c6, B6, d6, rfl, hpa⟩, ho⟩
      have ON5 := Lib.hid (ON4.out.tr ho)
      have B5 := Lib.hid (B4.out.only ho (fun h => h))
      have PA5 := Lib.hid hpa
      have O5 := Lib.hid ((Only.refl Noth w5).alloc (.cells (pkc p.kind p.frm p.abt p.seq A6 p.ms.length c6 B6 p.es.length d6) 50))
      obtain ⟨c0, c1', c2', c3, c4, c5⟩ := (B5.out.only O5.out (fun h => h)).six
      clear ho hpa
      go_wp2_with fail
      refine (pk_same A6 c6 B6 d6 p A c B d p _ (PA5.out.noth O5.out) (AT.out.noth (ON5.out.tr O5.out))).mono ?_
      rintro e w6 ⟨⟨b, rfl, hb⟩, ho⟩
      rw [hb.2 rfl]
      have ON6 := Lib.hid ((ON5.out.tr O5.out).tr ho)
      clear ho hb c0 c1' c2' c3 c4 c5
      go_wp2_with fail
      refine (pk_awake _ (E.out.noth ON6.out)).mono ?_
      rintro e w7 ⟨rfl, ho⟩
      have ON7 := Lib.hid (ON6.out.tr ho)
      clear ho
      go_wp2
      go_ret
      exact ⟨rfl, ON7.out⟩
    · obtain rfl := put_no hs h0
      clear hs
      go_wp2_with fail
      refine (read_nil _ (E.out.noth ON4.out)).mono ?_
      rintro e w5 ⟨rfl, ho⟩
      have ON5 := Lib.hid ((ON4.out.tr ho).alloc (.cells (pkc 0 0 0 0 none 0 0 none 0 0) 50))
      clear ho
      go_wp2_with fail
      all_goals first | (exfalso; exact h0 (by assumption)) | skip
      refine (pk_awake _ (E.out.noth ON5.out)).mono ?_
      rintro e w7 ⟨rfl, ho⟩
      have ON7 := Lib.hid (ON5.out.tr ho)
      clear ho
      go_wp2
      go_ret
      exact ⟨ret_bool (by simpa using h0), ON7.out⟩
end Go.Proofs.YtjdgmnaemopfdaaDoor
