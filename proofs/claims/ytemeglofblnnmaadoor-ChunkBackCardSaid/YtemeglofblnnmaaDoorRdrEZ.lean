/- ben.Reader: Int and Text. -/
import Derived.Test.YtemeglofblnnmaaDoorRdrDZ
namespace Go.Proofs.YtemeglofblnnmaaDoor
open Go.RowKit Go.Lib
set_option linter.unusedVariables false
attribute [local go_sem ↓] Go.wp_at_zero Go.wp_at_succ

theorem rdr_int_err (g : Nat) (r : Rd) (w : World) (h : RdAt w g r) (he : r.err ≠ 0) :
    Calls Tryd.prog 26 #[.pointer (some ⟨g, 0, none⟩)] w fun x w' => x = .returned (.int .i64 0) ∧ RdAt w' g r ∧ Only (At g) w w' := by
  have H := Lib.hid h
  have E := Lib.hid he
  clear h he
  go_enter Tryd.func26, Tryd.ntmps26
  go_wp2_with (go_at_call 43; refine (rdr_first_err g _ _ H.out E.out).mono ?_; rintro e w1 ⟨rfl, rfl⟩)
  go_ret
  exact ⟨rfl, H.out, Only.refl _ _⟩
theorem rdr_int_nil (g : Nat) (w : World) (h : RdAt w g ⟨[], 0⟩) :
    Calls Tryd.prog 26 #[.pointer (some ⟨g, 0, none⟩)] w fun x w' => x = .returned (.int .i64 0) ∧ RdAt w' g (Rd.stop 3) ∧ Only (At g) w w' := by
  have H := Lib.hid h
  clear h
  go_enter Tryd.func26, Tryd.ntmps26
  go_wp2_with (go_at_call 43; refine (rdr_first_nil g _ H.out).mono ?_; rintro e w1 ⟨rfl, hr, ho⟩; have HR := Lib.hid hr; have HO := Lib.hid ho; clear hr ho)
  go_ret
  exact ⟨rfl, HR.out, HO.out⟩
theorem rdr_int_miss (g : Nat) (b : UInt8) (t : List UInt8) (hd : b ≠ 105) (w : World) (h : RdAt w g ⟨b :: t, 0⟩) :
    Calls Tryd.prog 26 #[.pointer (some ⟨g, 0, none⟩)] w fun x w' => x = .returned (.int .i64 0) ∧ RdAt w' g (Rd.stop 4) ∧ Only (At g) w w' := by
  have H := Lib.hid h
  have e1 : ((b.toNat : Int) == 105) = false := by
    have := u8_beq b 105
    rw [show ((105 : UInt8).toNat : Int) = 105 from rfl] at this
    rw [this]; simpa using hd
  have e2 : ((b.toNat : Int) != 105) = true := by simp only [bne, e1]; rfl
  clear h hd
  go_enter Tryd.func26, Tryd.ntmps26
  go_wp2_with (first | (go_at_call 43; refine (rdr_first g b t _ H.out).mono ?_; rintro e w1 ⟨rfl, rfl⟩) | (go_at_call 44; refine (rdr_fail g _ 4 (by decide) _ H.out).mono ?_; rintro e w1 ⟨rfl, hr, ho⟩; have HR := Lib.hid hr; have HO := Lib.hid ho; clear hr ho))
  go_ret
  exact ⟨rfl, HR.out, HO.out⟩
theorem Env.set_ {w : World} (h : Env w) {g : Nat} (hg : Hi g) (i : Nat) (v : Value) : Env (w.setCell ⟨g, i, none⟩ v) := h.at_ ((Only.refl (At g) w).setCell (p := ⟨g, i, none⟩) (fun _ => rfl) v) hg
theorem rdr_int_hit (g : Nat) (t : List UInt8) (w : World) (h : RdAt w g ⟨105 :: t, 0⟩) (he : Env w) (hg : Hi g) :
    Calls Tryd.prog 26 #[.pointer (some ⟨g, 0, none⟩)] w fun x w' => x = .returned (.int .i64 (Rd.till t 101 20).2.1) ∧ RdAt w' g (Rd.till t 101 20).1 ∧ Only (At g) w w' := by
  have H := Lib.hid h
  have E := Lib.hid he
  have HG := Lib.hid hg
  obtain ⟨hs, A, c, h1, h2, h3, h4⟩ := h
  simp only at h1 h2 h3
  have c0 := h1.cell 0
  have f0 := h1.free 0
  simp at c0
  obtain ⟨A', hsl, hs2⟩ := slice_from c 1 h2 (by simp) h3
  simp only [show ((1 : Nat) : Int) = 1 from rfl, List.length_cons, Nat.add_sub_cancel] at hsl
  simp only [List.drop_one, List.tail_cons] at hs2
  have h3' : t.length + 1 ≤ c := by simpa using h3
  have HA := Lib.hid (show RdAt (w.setCell ⟨g, 0, none⟩ (.slice A' t.length (c - 1))) g ⟨t, 0⟩ from ⟨Rd.sane_mk _, A', c - 1, h1.set_ 0 _, hs2.setCell (p := ⟨g, 0, none⟩) (fun h => h rfl) _, by simp only; omega, by omega⟩)
  obtain ⟨n, hn⟩ : ∃ n, n = (Rd.till t 101 20).2.1 := ⟨_, rfl⟩
  have HN := Lib.hid hn
  rw [← hn]
  clear h1 h2 hs hs2 h3 he hg hn
  go_enter Tryd.func26, Tryd.ntmps26
  go_wp2_with (first | (go_at_call 43; refine (rdr_first g 105 t _ H.out).mono ?_; rintro e w1 ⟨rfl, rfl⟩) | (go_at_call 45; refine (rdr_until g t 101 20 (by decide) _ HA.out (E.out.set_ HG.out _ _)).mono ?_; rintro e w1 ⟨rfl, hr, ho⟩; rw [← HN.out]; have HR := Lib.hid hr; have HO := Lib.hid ho; clear hr ho))
  go_ret
  exact ⟨rfl, HR.out, ((Only.refl (At g) w).setCell (p := ⟨g, 0, none⟩) (fun _ => rfl) _).at_tr HO.out⟩
theorem rdr_int (g : Nat) (r : Rd) (w : World) (h : RdAt w g r) (he : Env w) (hg : Hi g) :
    Calls Tryd.prog 26 #[.pointer (some ⟨g, 0, none⟩)] w fun x w' => x = .returned (.int .i64 r.int.2) ∧ RdAt w' g r.int.1 ∧ Only (At g) w w' := by
  obtain ⟨b, err⟩ := r
  by_cases hz : err = 0
  · subst hz
    cases b with
    | nil => exact rdr_int_nil g w h
    | cons c t =>
      by_cases hc : c = 105
      · subst hc
        have : Rd.int ⟨105 :: t, 0⟩ = ((Rd.till t 101 20).1, (Rd.till t 101 20).2.1) := by simp [Rd.int]
        rw [this]
        exact rdr_int_hit g t w h he hg
      · have : Rd.int ⟨c :: t, 0⟩ = (Rd.stop 4, 0) := by simp [Rd.int, hc]
        rw [this]
        exact rdr_int_miss g c t hc w h
  · rw [Rd.stopped_int (r := ⟨b, err⟩) hz]
    exact rdr_int_err g _ w h hz

theorem rdr_text_err (g : Nat) (r : Rd) (m : Int) (w : World) (h : RdAt w g r) (he : r.err ≠ 0) :
    Calls Tryd.prog 27 #[.pointer (some ⟨g, 0, none⟩), .int .i64 m] w fun x w' => x = .returned (.string ⟨#[]⟩) ∧ RdAt w' g r ∧ Only (At g) w w' := by
  have H := Lib.hid h
  have E := Lib.hid he
  clear h he
  go_enter Tryd.func27, Tryd.ntmps27
  go_wp2_with (go_at_call 43; refine (rdr_first_err g _ _ H.out E.out).mono ?_; rintro e w1 ⟨rfl, rfl⟩)
  go_ret
  exact ⟨rfl, H.out, Only.refl _ _⟩
theorem rdr_text_nil (g : Nat) (m : Int) (w : World) (h : RdAt w g ⟨[], 0⟩) :
    Calls Tryd.prog 27 #[.pointer (some ⟨g, 0, none⟩), .int .i64 m] w fun x w' => x = .returned (.string ⟨#[]⟩) ∧ RdAt w' g (Rd.stop 3) ∧ Only (At g) w w' := by
  have H := Lib.hid h
  clear h
  go_enter Tryd.func27, Tryd.ntmps27
  go_wp2_with (go_at_call 43; refine (rdr_first_nil g _ H.out).mono ?_; rintro e w1 ⟨rfl, hr, ho⟩; have HR := Lib.hid hr; have HO := Lib.hid ho; clear hr ho)
  go_ret
  exact ⟨rfl, HR.out, HO.out⟩
theorem rdr_text_miss (g : Nat) (b : UInt8) (t : List UInt8) (m : Int) (hd : b.toNat < 48 ∨ 57 < b.toNat) (w : World) (h : RdAt w g ⟨b :: t, 0⟩) :
    Calls Tryd.prog 27 #[.pointer (some ⟨g, 0, none⟩), .int .i64 m] w fun x w' => x = .returned (.string ⟨#[]⟩) ∧ RdAt w' g (Rd.stop 4) ∧ Only (At g) w w' := by
  have H := Lib.hid h
  clear h
  rcases hd with hd | hd
  · have h1 : (b.toNat : Int) < 48 := by omega
    clear hd
    go_enter Tryd.func27, Tryd.ntmps27
    go_wp2_with (first | (go_at_call 43; refine (rdr_first g b t _ H.out).mono ?_; rintro e w1 ⟨rfl, rfl⟩) | (go_at_call 44; refine (rdr_fail g _ 4 (by decide) _ H.out).mono ?_; rintro e w1 ⟨rfl, hr, ho⟩; have HR := Lib.hid hr; have HO := Lib.hid ho; clear hr ho))
    go_ret
    exact ⟨rfl, HR.out, HO.out⟩
  · have h1 : 57 < (b.toNat : Int) := by omega
    have h2 : ¬ (b.toNat : Int) < 48 := by omega
    have h3 : decide ((b.toNat : Int) < 48) = false := by simpa using h2
    clear hd
    go_enter Tryd.func27, Tryd.ntmps27
    go_wp2_with (first | (go_at_call 43; refine (rdr_first g b t _ H.out).mono ?_; rintro e w1 ⟨rfl, rfl⟩) | (go_at_call 44; refine (rdr_fail g _ 4 (by decide) _ H.out).mono ?_; rintro e w1 ⟨rfl, hr, ho⟩; have HR := Lib.hid hr; have HO := Lib.hid ho; clear hr ho))
    go_ret
    exact ⟨rfl, HR.out, HO.out⟩
end Go.Proofs.YtemeglofblnnmaaDoor
