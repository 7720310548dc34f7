/- Layer 13: what the bytes of a packet are. -/
import Derived.Test.YtjdgmnaemopfdaaDoorRefZ
import Derived.Test.YtjdgmnaemopfdaaDoorSameP
import Derived.Test.YtjdgmnaemopfdaaDoorPkA
namespace Go.Proofs.YtjdgmnaemopfdaaDoor
open Go.RowKit Go.Lib
set_option linter.unusedVariables false
set_option maxRecDepth 100000
attribute [local go_sem ↓] Go.wp_at_zero Go.wp_at_succ

/-- What Put hands out. -/
def Pkt.out (p : Pkt) : List UInt8 := if p.check = 0 then p.bytes else []
theorem part_nil (w : World) : Part w (.slice none ([] : List UInt8).length 0) [] := ⟨none, 0, rfl, Src.none_ _ _ _ _, Nat.le_refl _, by decide⟩
theorem PutAns.out {w w' : World} {p : Pkt} {s : Value} (h : PutAns w p s w') : ∃ A c, s = .slice A p.out.length c ∧ Part w' (.slice A p.out.length c) p.out := by
  unfold PutAns at h
  unfold Pkt.out
  split
  · rename_i h0
    rw [if_pos h0] at h
    obtain ⟨A, c, rfl, h2, _⟩ := h
    exact ⟨A, c, rfl, h2⟩
  · rename_i h0
    rw [if_neg h0] at h
    exact ⟨none, 0, h, part_nil w'⟩
theorem RPutAns.out {w' : World} {p : Pkt} {s : Value} (h : RPutAns p s w') : ∃ A c, s = .slice A p.out.length c ∧ Part w' (.slice A p.out.length c) p.out := by
  unfold RPutAns at h
  unfold Pkt.out
  split
  · rename_i h0
    rw [if_pos h0] at h
    obtain ⟨A, c, rfl, h2⟩ := h
    exact ⟨A, c, rfl, h2⟩
  · rename_i h0
    rw [if_neg h0] at h
    exact ⟨none, 0, h, part_nil w'⟩
set_option maxHeartbeats 8000000 in
theorem pputs_walk (A : Option Addr) (c : Nat) (B : Option Addr) (d : Nat) (p : Pkt) (hf : p.Fit) (w : World) (hat : PkAt w A c B d p) (he : Env w) : Calls Tryd.prog 7 #[.agg #[.int .u8 p.kind, .int .u16 p.frm, .int .u16 p.abt, .int .i64 p.seq, .slice A p.ms.length c, .slice B p.es.length d]] w
    fun e w' => e = .returned (.bool true) ∧ Only Noth w w' := by
  have E := Lib.hid he
  have HP := Lib.hid hf
  have AT := Lib.hid hat
  have B0 := Lib.hid (Hld.new w 50 #[.int .u8 p.kind, .int .u16 p.frm, .int .u16 p.abt, .int .i64 p.seq, .slice A p.ms.length c, .slice B p.es.length d])
  have ON := Lib.hid ((Only.refl Noth w).alloc (.cells #[.int .u8 p.kind, .int .u16 p.frm, .int .u16 p.abt, .int .i64 p.seq, .slice A p.ms.length c, .slice B p.es.length d] 50))
  have HK := Lib.hid (show ∀ e ∈ p.es, e.key.size ≤ 9223372036854775807 ∧ e.val.size ≤ 9223372036854775807 from fun e h => (hf.e e h).2)
  clear he hf hat
  go_enter Tryd.func7, Tryd.ntmps7
  go_wp2_with fail
  refine (pk_light A c B d p HK.out _ (AT.out.noth ON.out)).mono ?_
  rintro e w1 ⟨⟨b, rfl, hb⟩, ho⟩
  have ON1 := Lib.hid (ON.out.tr ho)
  have B1 := Lib.hid (B0.out.only ho (fun h => h))
  have HB := Lib.hid hb
  clear ho hb
  cases b
  · go_wp2_with fail
    refine (pk_awake _ (E.out.noth ON1.out)).mono ?_
    rintro e w2 ⟨rfl, ho⟩
    have ON2 := Lib.hid (ON1.out.tr ho)
    clear ho
    go_wp2
    go_ret
    exact ⟨rfl, ON2.out⟩
  have LL := HB.out rfl
  have L1 : p.ms.length ≤ 80 := LL.1
  have L2 : p.es.length ≤ 260 := LL.2.1
  obtain ⟨c0, c1, c2, c3, c4, c5⟩ := B1.out.six
  clear HB LL
  go_wp2_with fail
  refine (pk_copy A c B d p (by omega) (by omega) _ (AT.out.noth ON1.out)).mono ?_
  rintro e w2 ⟨⟨A1, q1, B1', d1, rfl, hpa⟩, ho⟩
  have PA := Lib.hid hpa
  have O2 := Lib.hid ((Only.refl Noth w2).alloc (.cells #[.int .u8 p.kind, .int .u16 p.frm, .int .u16 p.abt, .int .i64 p.seq, .slice A1 p.ms.length q1, .slice B1' p.es.length d1] 50))
  have ON2 := Lib.hid ((ON1.out.tr ho).tr O2.out)
  have B2 := Lib.hid ((B1.out.only ho (fun h => h)).only O2.out (fun h => h))
  have X2 := Lib.hid (Hld.new w2 50 #[.int .u8 p.kind, .int .u16 p.frm, .int .u16 p.abt, .int .i64 p.seq, .slice A1 p.ms.length q1, .slice B1' p.es.length d1])
  clear ho hpa c0 c1 c2 c3 c4 c5
  go_wp2_with fail
  refine (pk_put A1 q1 B1' d1 p HP.out _ (PA.out.noth O2.out) (E.out.noth ON2.out).tab).mono ?_
  rintro e w3 ⟨⟨s, rfl, hs⟩, ho⟩
  obtain ⟨A3, c3', rfl, hp3⟩ := hs.out
  have O3 := Lib.hid (O2.out.tr ho)
  have ON3 := Lib.hid (ON2.out.tr ho)
  have B3 := Lib.hid (B2.out.only ho (fun h => h))
  have X3 := Lib.hid (X2.out.only ho (fun h => h))
  have P3 := Lib.hid hp3
  clear ho hs hp3
  obtain ⟨c0, c1, c2, c3, c4, c5⟩ := B3.out.six
  go_wp2_with fail
  refine (ref_pput A c B d p HP.out _ (AT.out.noth ON3.out)).mono ?_
  rintro e w4 ⟨⟨s, rfl, hs⟩, ho⟩
  obtain ⟨A4, c4', rfl, hp4⟩ := hs.out
  have O4 := Lib.hid (O3.out.tr ho)
  have ON4 := Lib.hid (ON3.out.tr ho)
  have B4 := Lib.hid (B3.out.only ho (fun h => h))
  have X4 := Lib.hid (X3.out.only ho (fun h => h))
  have hcv := (P3.out.noth ho).conv
  have hcv2 := hp4.conv
  clear ho hs hp4 c0 c1 c2 c3 c4 c5
  obtain ⟨c0, c1, c2, c3, c4, c5⟩ := B4.out.six
  go_wp2_with fail
  refine (pk_check A c B d p HP.out _ (AT.out.noth ON4.out) (E.out.noth ON4.out).tab).mono ?_
  rintro e w5 ⟨rfl, ho⟩
  have O5 := Lib.hid (O4.out.tr ho)
  have ON5 := Lib.hid (ON4.out.tr ho)
  have B5 := Lib.hid (B4.out.only ho (fun h => h))
  have X5 := Lib.hid (X4.out.only ho (fun h => h))
  clear ho hcv hcv2 c0 c1 c2 c3 c4 c5
  obtain ⟨c0, c1, c2, c3, c4, c5⟩ := B5.out.six
  obtain ⟨x0, x1, x2, x3, x4, x5⟩ := X5.out.six
  go_wp2_with fail
  refine (ref_same A1 q1 B1' d1 p A c B d p _ (PA.out.noth O5.out) (AT.out.noth ON5.out)).mono ?_
  rintro e w6 ⟨⟨b, rfl, hb⟩, ho⟩
  rw [hb.2 rfl]
  have ON6 := Lib.hid (ON5.out.tr ho)
  clear ho hb c0 c1 c2 c3 c4 c5 x0 x1 x2 x3 x4 x5
  go_wp2_with fail
  refine (pk_awake _ (E.out.noth ON6.out)).mono ?_
  rintro e w7 ⟨rfl, ho⟩
  have ON7 := Lib.hid (ON6.out.tr ho)
  clear ho
  go_wp2
  go_ret
  exact ⟨rfl, ON7.out⟩
end Go.Proofs.YtjdgmnaemopfdaaDoor
