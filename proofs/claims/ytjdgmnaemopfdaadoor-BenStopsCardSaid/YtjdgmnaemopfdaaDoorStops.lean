/- The walk of BenStops. -/
import Derived.Test.YtjdgmnaemopfdaaDoorRdrNil
import Derived.Test.YtjdgmnaemopfdaaDoorBenA
import Derived.Test.YtjdgmnaemopfdaaDoorApp
import Derived.Test.YtjdgmnaemopfdaaDoorOrdB
import Derived.Test.YtjdgmnaemopfdaaDoorTwo
import Derived.Deep.LoopGhost
namespace Go.Proofs.YtjdgmnaemopfdaaDoor
open Go.RowKit Go.Lib
set_option linter.unusedVariables false
set_option maxRecDepth 100000
attribute [local go_sem ↓] Go.wp_at_zero Go.wp_at_succ

/-- A reader that has stopped with ErrForm; what was there at w is as it was. -/
structure Stp (w W : World) (g : Nat) : Prop where
  rd : RdAt W g (Rd.stop 4)
  only : Only Noth w W
  env : Env W
  ge : w.heap.size ≤ g
  hi : Hi g
section
variable {w W W' : World} {g : Nat}
theorem stop_ne : (Rd.stop 4).err ≠ 0 := by unfold Rd.stop; decide
theorem Stp.go (h : Stp w W g) (hr : RdAt W' g (Rd.stop 4)) (ho : Only (At g) W W') : Stp w W' g :=
  ⟨hr, h.only.trans ho (fun j hj hl => by have : j = g := hj; have := h.ge; omega), h.env.at_ ho h.hi, h.ge, h.hi⟩
theorem Stp.noth (h : Stp w W g) (ho : Only Noth W W') : Stp w W' g := ⟨h.rd.noth ho, h.only.tr ho, h.env.noth ho, h.ge, h.hi⟩
theorem stp_open (h : Stp w W g) : Calls Tryd.prog 25 #[.pointer (some ⟨g, 0, none⟩)] W fun x w' => x = .returned (.tuple #[]) ∧ Stp w w' g :=
  (rdr_open g _ W h.rd).mono fun e w' ⟨h1, h2, h3⟩ => ⟨h1, h.go (by rw [← Rd.stopped_byte (r := Rd.stop 4) stop_ne 108]; exact h2) h3⟩
theorem stp_close (h : Stp w W g) : Calls Tryd.prog 27 #[.pointer (some ⟨g, 0, none⟩)] W fun x w' => x = .returned (.tuple #[]) ∧ Stp w w' g :=
  (rdr_close g _ W h.rd).mono fun e w' ⟨h1, h2, h3⟩ => ⟨h1, h.go (by rw [← Rd.stopped_byte (r := Rd.stop 4) stop_ne 101]; exact h2) h3⟩
theorem stp_int (h : Stp w W g) : Calls Tryd.prog 20 #[.pointer (some ⟨g, 0, none⟩)] W fun x w' => x = .returned (.int .i64 0) ∧ Stp w w' g :=
  (rd_int_v g _ _ 0 (Rd.stopped_int stop_ne) W h.rd h.env h.hi).mono fun e w' ⟨h1, h2, h3⟩ => ⟨h1, h.go h2 h3⟩
theorem stp_text (m : Int) (h : Stp w W g) : Calls Tryd.prog 23 #[.pointer (some ⟨g, 0, none⟩), .int .i64 m] W fun x w' => x = .returned (.string ⟨#[]⟩) ∧ Stp w w' g :=
  (rd_text_v g _ _ m ⟨#[]⟩ (Rd.stopped_text stop_ne m) W h.rd h.env).mono fun e w' ⟨h1, h2, h3⟩ => ⟨h1, h.go h2 h3⟩
theorem stp_more (h : Stp w W g) : Calls Tryd.prog 26 #[.pointer (some ⟨g, 0, none⟩)] W fun x w' => x = .returned (.bool false) ∧ W = w' := rdr_more g _ W h.rd
theorem stp_left (h : Stp w W g) : Calls Tryd.prog 22 #[.pointer (some ⟨g, 0, none⟩)] W fun x w' => x = .returned (.int .i64 0) ∧ W = w' := rdr_left g _ W h.rd
theorem stp_err (h : Stp w W g) : Calls Tryd.prog 21 #[.pointer (some ⟨g, 0, none⟩)] W fun x w' => x = .returned (.int .i64 4) ∧ W = w' := rdr_err g _ W h.rd
end
theorem x_int (l : List UInt8) : (⟨120 :: l, 0⟩ : Rd).int = (Rd.stop 4, 0) := by unfold Rd.int; simp
theorem rdr_new_n (A : Option Addr) (c : Nat) (l : List UInt8) (n : Nat) (hn : l.length = n) (w : World) (hp : Part w (.slice A n c) l) :
    Calls Tryd.prog 19 #[.slice A n c] w fun e w' => e = .returned (.pointer (some ⟨w.heap.size, 0, none⟩)) ∧ RdAt w' w.heap.size ⟨l, 0⟩ ∧ Only Noth w w' := by subst hn; exact rdr_new A c l w hp
/-- At the loop's head. -/
def StopsAt (w : World) (g n : Nat) (i : Value) (W : World) : Prop := ∃ k : Nat, k ≤ n ∧ i = .int .i64 k ∧ Stp w W g

set_option maxHeartbeats 4000000 in
theorem stops_walk (A : Option Addr) (c : Nat) (l : List UInt8) (hl : l.length ≤ 140737488351232) (w : World) (hsrc : Src w (fun k => k < w.heap.size) 1 A l.length (byteCells l)) (hc1 : l.length ≤ c) (hc2 : c ≤ 9223372036854775807)
    (t : Tws) (ht : t.Fit w) (he : Env w) :
    Calls Tryd.prog 6 #[.slice A l.length c, .slice t.a t.l.length t.c] w fun e w' => e = .returned (.bool true) ∧ Only Noth w w' := by
  have SR := Lib.hid hsrc
  have E := Lib.hid he
  have HT := Lib.hid ht
  have hl2 := hl
  have hn := ht.len
  clear hsrc he ht
  have kc := fun (w : World) (C : Array Value) (n c : Nat) => Lib.run_convert_bytes_const (P := Tryd.prog) w 23 5 C n c Tryd.underlying23 Tryd.underlying5
  obtain ⟨i0, hi, hz0, hz1, hz2⟩ := info_parts b8info
  go_enter Tryd.func6, Tryd.ntmps6
  go_wp2_with (at_builtin; refine wpList_append_full rfl (.tmp 10) (.tmp 11) 23 rfl 5 i0 (.int .u8 0) 1 1 Tryd.underlying23 hi hz0 hz1 hz2 rfl (At w.heap.size) (fun k => k < w.heap.size) (fun k hk => by have : k = w.heap.size := hk; simp; omega) w.heap.size 1 (byteCells [120]) rfl (src_block _ w.heap.size #[.int .u8 120] (1, 2) 1 rfl 5 (heap_alloc_new w _) (At w.heap.size) rfl) (by omega) A l.length c (byteCells l) rfl (SR.out.alloc _) (by simp only [maxLen]; omega) (by omega) ?_; intro A1 c1 w1 hsrc hc3 hc4 ho; have P1 := Lib.hid (show Part w1 (.slice A1 (1 + l.length) c1) (120 :: l) from ⟨A1, c1, by rw [List.length_cons, Nat.add_comm], (by rw [List.length_cons, Nat.add_comm]; exact hsrc), (by simp only [List.length_cons]; omega), (by simpa [maxLen] using hc4)⟩); have O1 := Lib.hid (((Only.refl Noth w).alloc _).tr ho); clear hsrc hc3 hc4 ho)
  refine (rdr_new_n _ _ (120 :: l) (1 + l.length) (by simp; omega) _ P1.out).mono ?_
  rintro e w2 ⟨rfl, hr, ho⟩
  obtain ⟨g, hg⟩ : ∃ g, w1.heap.size = g := ⟨_, rfl⟩
  rw [hg] at hr
  rw [hg]
  have hge : w.heap.size ≤ g := by have := O1.out.size; omega
  have HI := Lib.hid (E.out.hi (g := g) hge)
  have R2 := Lib.hid hr
  have O2 := Lib.hid (O1.out.tr ho)
  have GE := Lib.hid hge
  clear hr ho hg hge kc
  go_wp2_with fail
  refine (rd_int_v g _ _ 0 (x_int l) _ R2.out (E.out.noth O2.out) HI.out).mono ?_
  rintro e w3 ⟨rfl, hr, ho⟩
  have S := Lib.hid (show Stp w w3 g from ⟨hr, O2.out.trans ho (fun j hj hl => by have : j = g := hj; have := GE.out; omega), (E.out.noth O2.out).at_ ho HI.out, GE.out, HI.out⟩)
  clear hr ho R2 O2 P1 O1
  go_wp2_with fail
  refine (stp_err S.out).mono ?_
  rintro e w4 ⟨rfl, rfl⟩
  go_wp2_with fail
  go_loopw [7, 8] (fun i m W => StopsAt w g t.l.length i W) (fun i m W => t.l.length - (RowKit.intOf i).toNat)
  case atStart => exact ⟨0, Nat.zero_le _, rfl, S.out⟩
  case round =>
    obtain ⟨k, hk, rfl, h⟩ := hrel
    have H := Lib.hid h
    clear h S
    by_cases hlt : k < t.l.length
    · obtain ⟨b, o, ha, hx⟩ := HT.out.at_ (by omega)
      have hy := hx k _ (List.getElem?_eq_getElem hlt)
      have hc := (hy.noth H.out.only).c1
      obtain ⟨m, hm⟩ : ∃ m, t.l[k].most = m := ⟨_, rfl⟩
      rw [hm] at hc
      rw [ha]
      have hb : (0 : Int) ≤ k := by omega
      have hb2 : (k : Int) < t.l.length := by omega
      clear hx hy hm ha
      go_wp2_with fail
      refine (stp_open H.out).mono ?_
      rintro e w' ⟨rfl, h⟩
      have H := Lib.hid h
      clear h
      go_wp2_with fail
      refine (nil_open _).mono ?_
      rintro e w' ⟨rfl, rfl⟩
      go_wp2_with fail
      refine (stp_int H.out).mono ?_
      rintro e w' ⟨rfl, h⟩
      have H := Lib.hid h
      clear h
      go_wp2_with fail
      refine (stp_text _ H.out).mono ?_
      rintro e w' ⟨rfl, h⟩
      have H := Lib.hid h
      clear h
      go_wp2_with fail
      refine (stp_more H.out).mono ?_
      rintro e w' ⟨rfl, rfl⟩
      go_wp2_with fail
      refine (stp_left H.out).mono ?_
      rintro e w' ⟨rfl, rfl⟩
      go_wp2_with fail
      refine (stp_err H.out).mono ?_
      rintro e w' ⟨rfl, rfl⟩
      go_wp2_with fail
      refine (nil_int _).mono ?_
      rintro e w' ⟨rfl, rfl⟩
      go_wp2_with fail
      refine (nil_text _ _).mono ?_
      rintro e w' ⟨rfl, rfl⟩
      go_wp2_with fail
      refine (nil_more _).mono ?_
      rintro e w' ⟨rfl, rfl⟩
      go_wp2_with fail
      refine (nil_left _).mono ?_
      rintro e w' ⟨rfl, rfl⟩
      go_wp2_with fail
      refine (stp_close H.out).mono ?_
      rintro e w' ⟨rfl, h⟩
      have H := Lib.hid h
      clear h
      go_wp2_with fail
      refine (nil_close _).mono ?_
      rintro e w' ⟨rfl, rfl⟩
      go_wp2_with fail
      go_roundw
      case rel => exact ⟨k + 1, by omega, by go_num, H.out⟩
      case measure => simp [RowKit.intOf]; omega
    · obtain rfl : k = t.l.length := by omega
      go_wp2_with fail
      refine (stp_err H.out).mono ?_
      rintro e w' ⟨rfl, rfl⟩
      go_wp2_with fail
      refine (nil_err _).mono ?_
      rintro e w' ⟨rfl, rfl⟩
      go_wp2_with fail
      refine (ben_awake _ H.out.env).mono ?_
      rintro e w' ⟨rfl, ho⟩
      go_wp2
      go_ret
      exact ⟨rfl, H.out.only.tr ho⟩
end Go.Proofs.YtjdgmnaemopfdaaDoor
