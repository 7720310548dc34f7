/- Layer 13: what bytes are read as. -/
import Derived.Test.YtjdgmnaemopfdaaDoorMRd13
import Derived.Test.YtjdgmnaemopfdaaDoorMSm
import Derived.Test.YtjdgmnaemopfdaaDoorByt
namespace Go.Proofs.YtjdgmnaemopfdaaDoor
open Go.RowKit Go.Lib
set_option linter.unusedVariables false
set_option maxRecDepth 100000
attribute [local go_sem ↓] Go.wp_at_zero Go.wp_at_succ

theorem pk_read2 (A : Option Addr) (c : Nat) (l : List UInt8) (w : World) (hl : Part w (.slice A l.length c) l) (he : Env w) : Calls Tryd.prog 35 #[.slice A l.length c] w
    fun e w' => RReadAns l e w' ∧ Only Noth w w' := by
  obtain ⟨p, hp⟩ := parse_some l
  refine (pk_read A c l p hp w hl he).mono ?_
  rintro e w' ⟨hr, ho⟩
  refine ⟨?_, ho⟩
  unfold ReadAns at hr
  split at hr
  · rename_i h
    obtain ⟨A', c', B', d', h1, h2⟩ := hr
    exact .inl ⟨p, ⟨parse_fit hp, h.2.1, h.2.2⟩, A', c', B', d', h1, h2⟩
  · rename_i h
    refine .inr ⟨fun q hq => h ?_, hr⟩
    have e := hq.one hp
    subst e
    obtain ⟨_, h0, rfl⟩ := hq
    exact ⟨(pcheck_zero.1 h0).2.2, h0, rfl⟩
/-- What is read hangs on the bytes alone. -/
theorem read_one (l : List UInt8) : ∃ (q : Pkt) (n : Int), ∀ e w', RReadAns l e w' → ∃ A c B d, e = .returned (.tuple #[.agg (pkc q.kind q.frm q.abt q.seq A q.ms.length c B q.es.length d), .int .i64 n]) ∧ PkAt w' A c B d q := by
  by_cases hq : ∃ q : Pkt, q.Of l
  · obtain ⟨q, hq⟩ := hq
    obtain ⟨p, hp⟩ := parse_some l
    refine ⟨q, 0, fun e w' h => ?_⟩
    rcases h with ⟨q', hq', h⟩ | ⟨h, _⟩
    · have e1 := hq.one hp
      have e2 := hq'.one hp
      subst e1
      subst e2
      exact h
    · exact absurd hq (h q)
  · refine ⟨⟨0, 0, 0, 0, [], []⟩, 14, fun e w' h => ?_⟩
    rcases h with ⟨q', hq', h⟩ | ⟨_, h⟩
    · exact absurd ⟨q', hq'⟩ hq
    · exact ⟨none, 0, none, 0, h, fun h => absurd h (by simp), fun h => absurd h (by simp), Nat.le_refl _, by decide, Nat.le_refl _, by decide⟩
set_option maxHeartbeats 8000000 in
theorem preads_walk (A : Option Addr) (c : Nat) (l : List UInt8) (hl : l.length ≤ 140737488351232) (w : World) (hsrc : Src w (fun k => k < w.heap.size) 1 A l.length (byteCells l)) (hc1 : l.length ≤ c) (hc2 : c ≤ 9223372036854775807) (he : Env w) :
    Calls Tryd.prog 8 #[.slice A l.length c] w fun e w' => e = .returned (.bool true) ∧ Only Noth w w' := by
  have SR := Lib.hid hsrc
  have E := Lib.hid he
  have PB := Lib.hid (show Part w (.slice A l.length c) l from ⟨A, c, rfl, hsrc, hc1, hc2⟩)
  have hl2 := hl
  obtain ⟨q, n, hqn⟩ := read_one l
  have HQ := Lib.hid hqn
  clear hsrc he hqn
  obtain ⟨i0, hi, hz0, hz1, hz2⟩ := info_parts b8info
  go_enter Tryd.func8, Tryd.ntmps8
  go_wp2_with (at_builtin; refine wpList_append_row _ rfl (.tmp 8) (.tmp 9) 23 rfl 5 i0 (.int .u8 0) 1 1 Tryd.underlying23 hi hz0 hz1 hz2 rfl (New w) (fun k => k < w.heap.size) _ 0 [] rfl (Row.empty _ _ _ _ _) A l.length c (byteCells l) rfl (SR.out.alloc _) (cells_one l) (by simp only [maxLen]; omega) (by omega) ?_; intro v' w1 hrow honly hsz; obtain ⟨A1, c1, hv'⟩ := hrow.shape; subst hv'; have ROW := Lib.hid hrow; have HO := Lib.hid honly; clear hrow honly hsz)
  have O1 := Lib.hid (show Only Noth w w1 from ((Only.refl Noth w).alloc _).trans HO.out (fun j hj hl => by have : w.heap.size ≤ j := hj; omega))
  have P1 := Lib.hid (show Part w1 (.slice A1 (0 + l.length) c1) l from ⟨A1, c1, by rw [Nat.zero_add], by have := ROW.out.src; simp only [Nat.zero_add, List.nil_append] at this; exact this.mono (fun k hk hl => hl), by have := ROW.out.caps.1; omega, ROW.out.caps.2⟩)
  simp only [Nat.zero_add] at P1 ⊢
  clear ROW HO
  refine (pk_read2 A1 c1 l _ P1.out (E.out.noth O1.out)).mono ?_
  rintro e w2 ⟨hr, ho⟩
  obtain ⟨A2, c2, B2, d2, rfl, hpa⟩ := HQ.out _ _ hr
  have a2 := (Only.refl Noth w2).alloc (.cells (pkc q.kind q.frm q.abt q.seq A2 q.ms.length c2 B2 q.es.length d2) 50)
  have PA := Lib.hid (hpa.noth a2)
  have O2 := Lib.hid ((O1.out.tr ho).tr a2)
  have P2 := Lib.hid ((P1.out.noth ho).noth a2)
  have B2' := Lib.hid (Hld.new w2 50 (pkc q.kind q.frm q.abt q.seq A2 q.ms.length c2 B2 q.es.length d2))
  clear hr ho hpa a2
  go_wp2_with fail
  refine (ref_pread A c l _ (PB.out.noth O2.out)).mono ?_
  rintro e w3 ⟨hr, ho⟩
  obtain ⟨A3, c3, B3, d3, rfl, hpa⟩ := HQ.out _ _ hr
  have a3 := (Only.refl Noth w3).alloc (.cells (pkc q.kind q.frm q.abt q.seq A3 q.ms.length c3 B3 q.es.length d3) 50)
  have PC := Lib.hid (hpa.noth a3)
  have PA2 := Lib.hid ((PA.out.noth ho).noth a3)
  have O3 := Lib.hid ((O2.out.tr ho).tr a3)
  have P3 := Lib.hid ((P2.out.noth ho).noth a3)
  have BX := Lib.hid ((B2'.out.only ho (fun h => h)).only a3 (fun h => h))
  obtain ⟨x0, x1, x2, x3, x4, x5⟩ := BX.out.six
  clear hr ho hpa a3
  go_wp2_with fail
  refine (ref_same A2 c2 B2 d2 q A3 c3 B3 d3 q _ PA2.out PC.out).mono ?_
  rintro e w4 ⟨⟨b, rfl, hb⟩, ho⟩
  rw [hb.2 rfl]
  have O4 := Lib.hid (O3.out.tr ho)
  have hcv := (P3.out.noth ho).conv
  have hcv2 := (PB.out.noth O4.out).conv
  clear ho hb x0 x1 x2 x3 x4 x5
  go_wp2_with fail
  refine (pk_awake _ (E.out.noth O4.out)).mono ?_
  rintro e w5 ⟨rfl, ho⟩
  have O5 := Lib.hid (O4.out.tr ho)
  clear ho
  go_wp2
  go_ret
  exact ⟨rfl, O5.out⟩
end Go.Proofs.YtjdgmnaemopfdaaDoor
