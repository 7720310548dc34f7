/- ben.Reader: New, fail, first, More, Left, Err, skip. -/
import Derived.Test.YtemeglofblnnmaaDoorRdr
namespace Go.Proofs.YtemeglofblnnmaaDoor
open Go.RowKit Go.Lib
set_option linter.unusedVariables false
attribute [local go_sem ↓] Go.wp_at_zero Go.wp_at_succ

/-- Block g is a reader that is at r. -/
def RdAt (w : World) (g : Nat) (r : Rd) : Prop :=
  r.Sane ∧ ∃ A c, Hld w g 85 #[.slice A r.b.length c, .int .i64 r.err] ∧ Src w (fun k => k ≠ g) 1 A r.b.length (byteCells r.b) ∧ r.b.length ≤ c ∧ c ≤ 9223372036854775807
theorem RdAt.noth {w w' : World} {g : Nat} {r : Rd} (h : RdAt w g r) (ho : Only Noth w w') : RdAt w' g r := by
  obtain ⟨hs, A, c, h1, h2, h3, h4⟩ := h
  exact ⟨hs, A, c, h1.only ho (fun h => h), h2.only ho (fun _ _ h => h), h3, h4⟩
theorem RdAt.only {w w' : World} {g : Nat} {r : Rd} (h : RdAt w g r) {F : Nat → Prop} (ho : Only F w w') (hF : ∀ k, F k → w.heap.size ≤ k) : RdAt w' g r := by
  obtain ⟨hs, A, c, h1, h2, h3, h4⟩ := h
  have ho2 : Only Noth w w' := ho.mono (fun k hk hl => by have := hF k hk; omega)
  exact ⟨hs, A, c, h1.only ho2 (fun h => h), h2.only ho2 (fun _ _ h => h), h3, h4⟩
theorem RdAt.lt {w : World} {g : Nat} {r : Rd} (h : RdAt w g r) : g < w.heap.size := by
  obtain ⟨_, A, c, h1, _⟩ := h
  exact h1.lt
abbrev At (g : Nat) : Nat → Prop := fun k => k = g
theorem Only.at_tr {g : Nat} {a b c : World} (h : Only (At g) a b) (k : Only (At g) b c) : Only (At g) a c := h.trans k (fun _ h _ => h)
theorem Only.at_of {g : Nat} {a b : World} (h : Only Noth a b) : Only (At g) a b := h.mono (fun _ h _ => h.elim)

theorem rdr_new (A : Option Addr) (c : Nat) (l : List UInt8) (w : World) (hp : Part w (.slice A l.length c) l) :
    Calls Tryd.prog 24 #[.slice A l.length c] w fun e w' => e = .returned (.pointer (some ⟨w.heap.size, 0, none⟩)) ∧ RdAt w' w.heap.size ⟨l, 0⟩ ∧ Only Noth w w' := by
  have HP := Lib.hid hp
  clear hp
  go_enter Tryd.func24, Tryd.ntmps24
  go_wp2
  go_ret
  obtain ⟨A', c', he, hs, h1, h2⟩ := HP.out
  have e1 := (Value.slice.inj he).1
  have e2 := (Value.slice.inj he).2.2
  subst e1
  subst e2
  refine ⟨rfl, ⟨Rd.sane_mk _, A, c, Hld.new w _ _, ?_, h1, h2⟩, (Only.refl _ _).alloc _⟩
  exact (hs.alloc _).mono (fun k hk _ => Nat.ne_of_lt hk)

theorem rdr_fail (g : Nat) (r : Rd) (e : Int) (he : e ≠ 0) (w : World) (h : RdAt w g r) :
    Calls Tryd.prog 44 #[.pointer (some ⟨g, 0, none⟩), .int .i64 e] w fun x w' => x = .returned (.tuple #[]) ∧ RdAt w' g (Rd.stop e) ∧ Only (At g) w w' := by
  obtain ⟨hs, A, c, h1, h2, h3, h4⟩ := h
  have c0 := h1.cell 0
  have c1 := h1.cell 1
  have f0 := h1.free 0
  have f1 := h1.free 1
  simp at c0 c1
  have HL := Lib.hid h1
  clear h1 h2 hs
  go_enter Tryd.func44, Tryd.ntmps44
  go_wp2
  refine bodyPost_end (results_none rfl _ _ _) rfl ?_
  refine ⟨rfl, ⟨Rd.sane_stop _, none, 0, (HL.out.set_ 0 _).set_ 1 _, Src.none_ _ _ _ _, Nat.le_refl _, by omega⟩, ?_⟩
  exact ((Only.refl (At g) w).setCell (p := ⟨g, 0, none⟩) (fun _ => rfl) _).setCell (p := ⟨g, 1, none⟩) (fun _ => rfl) _

theorem rdr_first_err (g : Nat) (r : Rd) (w : World) (h : RdAt w g r) (he : r.err ≠ 0) :
    Calls Tryd.prog 43 #[.pointer (some ⟨g, 0, none⟩)] w fun x w' => x = .returned (.tuple #[.int .u8 0, .bool false]) ∧ w = w' := by
  obtain ⟨hs, A, c, h1, h2, h3, h4⟩ := h
  have c0 := h1.cell 0
  have c1 := h1.cell 1
  simp at c0 c1
  have e1 : (r.err != 0) = true := by simpa using he
  clear h1 h2 hs he
  go_enter Tryd.func43, Tryd.ntmps43
  go_wp2
  go_ret2
  exact ⟨rfl, rfl⟩
theorem rdr_first_nil (g : Nat) (w : World) (h : RdAt w g ⟨[], 0⟩) :
    Calls Tryd.prog 43 #[.pointer (some ⟨g, 0, none⟩)] w fun x w' => x = .returned (.tuple #[.int .u8 0, .bool false]) ∧ RdAt w' g (Rd.stop 3) ∧ Only (At g) w w' := by
  have H := Lib.hid h
  obtain ⟨hs, A, c, h1, h2, h3, h4⟩ := h
  have c0 := h1.cell 0
  have c1 := h1.cell 1
  simp at c0 c1
  clear h1 h2 hs
  go_enter Tryd.func43, Tryd.ntmps43
  go_wp2_with (go_at_call 44; refine (rdr_fail g _ 3 (by decide) _ H.out).mono ?_; rintro e w1 ⟨rfl, hr, ho⟩; have HR := Lib.hid hr; have HO := Lib.hid ho; clear hr ho)
  go_ret2
  exact ⟨rfl, HR.out, HO.out⟩
theorem rdr_first (g : Nat) (b : UInt8) (t : List UInt8) (w : World) (h : RdAt w g ⟨b :: t, 0⟩) :
    Calls Tryd.prog 43 #[.pointer (some ⟨g, 0, none⟩)] w fun x w' => x = .returned (.tuple #[.int .u8 b.toNat, .bool true]) ∧ w = w' := by
  obtain ⟨hs, A, c, h1, h2, h3, h4⟩ := h
  have c0 := h1.cell 0
  have c1 := h1.cell 1
  simp at c0 c1
  obtain ⟨ad, rfl, _, _, hc⟩ := h2.2 (by simp)
  have d0 := hc 0 (.int .u8 b.toNat) rfl
  have d1 : w.cell? ad = some (.int .u8 b.toNat) := by
    have e : ad.add 0 = ad := by unfold Addr.add; split <;> simp_all
    rw [e] at d0
    exact d0
  clear h1 h2 hs hc
  go_enter Tryd.func43, Tryd.ntmps43
  go_wp2
  go_ret2
  exact ⟨rfl, rfl⟩

theorem rdr_err (g : Nat) (r : Rd) (w : World) (h : RdAt w g r) :
    Calls Tryd.prog 29 #[.pointer (some ⟨g, 0, none⟩)] w fun x w' => x = .returned (.int .i64 r.err) ∧ w = w' := by
  obtain ⟨hs, A, c, h1, h2, h3, h4⟩ := h
  have c1 := h1.cell 1
  simp at c1
  clear h1 h2 hs
  go_enter Tryd.func29, Tryd.ntmps29
  go_wp2
  go_ret
  exact ⟨rfl, rfl⟩
theorem rdr_left (g : Nat) (r : Rd) (w : World) (h : RdAt w g r) :
    Calls Tryd.prog 30 #[.pointer (some ⟨g, 0, none⟩)] w fun x w' => x = .returned (.int .i64 r.b.length) ∧ w = w' := by
  obtain ⟨hs, A, c, h1, h2, h3, h4⟩ := h
  have c0 := h1.cell 0
  simp at c0
  clear h1 h2 hs
  go_enter Tryd.func30, Tryd.ntmps30
  go_wp2
  go_ret
  exact ⟨rfl, rfl⟩
/-- The bytes behind the first one. -/
theorem rdr_skip_hit (g : Nat) (b : UInt8) (t : List UInt8) (w : World) (h : RdAt w g ⟨b :: t, 0⟩) :
    Calls Tryd.prog 42 #[.pointer (some ⟨g, 0, none⟩), .int .u8 b.toNat] w fun x w' => x = .returned (.tuple #[]) ∧ RdAt w' g ⟨t, 0⟩ ∧ Only (At g) w w' := by
  have H := Lib.hid h
  obtain ⟨hs, A, c, h1, h2, h3, h4⟩ := h
  have c0 := h1.cell 0
  have f0 := h1.free 0
  simp at c0
  obtain ⟨A', hsl, hs2⟩ := slice_from c 1 h2 (by simp) h3
  simp only [show ((1 : Nat) : Int) = 1 from rfl, List.length_cons, Nat.add_sub_cancel] at hsl
  have HS := Lib.hid hs2
  have HL := Lib.hid h1
  have h3' : t.length + 1 ≤ c := by simpa using h3
  clear h1 h2 hs hs2 h3
  go_enter Tryd.func42, Tryd.ntmps42
  go_wp2_with (go_at_call 43; refine (rdr_first g b t _ H.out).mono ?_; rintro e w1 ⟨rfl, rfl⟩)
  refine bodyPost_end (results_none rfl _ _ _) rfl ?_
  refine ⟨rfl, ⟨Rd.sane_mk _, A', c - 1, HL.out.set_ 0 _, ?_, by simp; omega, by omega⟩, ?_⟩
  · have := HS.out
    simp only [List.drop_one, List.tail_cons] at this
    exact this.setCell (p := ⟨g, 0, none⟩) (fun h => h rfl) _
  · exact (Only.refl (At g) w).setCell (p := ⟨g, 0, none⟩) (fun _ => rfl) _

theorem rdr_skip_miss (g : Nat) (b d : UInt8) (t : List UInt8) (hd : b ≠ d) (w : World) (h : RdAt w g ⟨b :: t, 0⟩) :
    Calls Tryd.prog 42 #[.pointer (some ⟨g, 0, none⟩), .int .u8 d.toNat] w fun x w' => x = .returned (.tuple #[]) ∧ RdAt w' g (Rd.stop 4) ∧ Only (At g) w w' := by
  have H := Lib.hid h
  have e1 : ((b.toNat : Int) == (d.toNat : Int)) = false := by rw [u8_beq]; simpa using hd
  have e2 : ((b.toNat : Int) != (d.toNat : Int)) = true := by simp only [bne, e1]; rfl
  clear h hd
  go_enter Tryd.func42, Tryd.ntmps42
  go_wp2_with (first | (go_at_call 43; refine (rdr_first g b t _ H.out).mono ?_; rintro e w1 ⟨rfl, rfl⟩) | (go_at_call 44; refine (rdr_fail g _ 4 (by decide) _ H.out).mono ?_; rintro e w1 ⟨rfl, hr, ho⟩; have HR := Lib.hid hr; have HO := Lib.hid ho; clear hr ho))
  refine bodyPost_end (results_none rfl _ _ _) rfl ?_
  exact ⟨rfl, HR.out, HO.out⟩
theorem rdr_skip_nil (g : Nat) (d : UInt8) (w : World) (h : RdAt w g ⟨[], 0⟩) :
    Calls Tryd.prog 42 #[.pointer (some ⟨g, 0, none⟩), .int .u8 d.toNat] w fun x w' => x = .returned (.tuple #[]) ∧ RdAt w' g (Rd.stop 3) ∧ Only (At g) w w' := by
  have H := Lib.hid h
  clear h
  go_enter Tryd.func42, Tryd.ntmps42
  go_wp2_with (go_at_call 43; refine (rdr_first_nil g _ H.out).mono ?_; rintro e w1 ⟨rfl, hr, ho⟩; have HR := Lib.hid hr; have HO := Lib.hid ho; clear hr ho)
  refine bodyPost_end (results_none rfl _ _ _) rfl ?_
  exact ⟨rfl, HR.out, HO.out⟩
theorem rdr_skip_err (g : Nat) (r : Rd) (d : UInt8) (w : World) (h : RdAt w g r) (he : r.err ≠ 0) :
    Calls Tryd.prog 42 #[.pointer (some ⟨g, 0, none⟩), .int .u8 d.toNat] w fun x w' => x = .returned (.tuple #[]) ∧ RdAt w' g r ∧ Only (At g) w w' := by
  have H := Lib.hid h
  have E := Lib.hid he
  clear h he
  go_enter Tryd.func42, Tryd.ntmps42
  go_wp2_with (go_at_call 43; refine (rdr_first_err g _ _ H.out E.out).mono ?_; rintro e w1 ⟨rfl, rfl⟩)
  refine bodyPost_end (results_none rfl _ _ _) rfl ?_
  exact ⟨rfl, H.out, Only.refl _ _⟩
theorem rdr_skip (g : Nat) (r : Rd) (d : UInt8) (w : World) (h : RdAt w g r) :
    Calls Tryd.prog 42 #[.pointer (some ⟨g, 0, none⟩), .int .u8 d.toNat] w fun x w' => x = .returned (.tuple #[]) ∧ RdAt w' g (r.byte d) ∧ Only (At g) w w' := by
  obtain ⟨b, err⟩ := r
  by_cases he : err = 0
  · subst he
    cases b with
    | nil => exact rdr_skip_nil g d w h
    | cons c t =>
      by_cases hc : c = d
      · subst hc
        rw [Rd.byte_laid]
        exact rdr_skip_hit g c t w h
      · have : Rd.byte ⟨c :: t, 0⟩ d = Rd.stop 4 := by simp [Rd.byte, hc]
        rw [this]
        exact rdr_skip_miss g c d t hc w h
  · rw [Rd.stopped_byte (r := ⟨b, err⟩) he]
    exact rdr_skip_err g _ d w h he
theorem rdr_open (g : Nat) (r : Rd) (w : World) (h : RdAt w g r) :
    Calls Tryd.prog 25 #[.pointer (some ⟨g, 0, none⟩)] w fun x w' => x = .returned (.tuple #[]) ∧ RdAt w' g (r.byte 108) ∧ Only (At g) w w' := by
  have H := Lib.hid h
  clear h
  go_enter Tryd.func25, Tryd.ntmps25
  go_wp2_with (go_at_call 42; refine (rdr_skip g r 108 _ H.out).mono ?_; rintro e w1 ⟨rfl, hr, ho⟩; have HR := Lib.hid hr; have HO := Lib.hid ho; clear hr ho)
  refine bodyPost_end (results_none rfl _ _ _) rfl ?_
  exact ⟨rfl, HR.out, HO.out⟩
theorem rdr_close (g : Nat) (r : Rd) (w : World) (h : RdAt w g r) :
    Calls Tryd.prog 28 #[.pointer (some ⟨g, 0, none⟩)] w fun x w' => x = .returned (.tuple #[]) ∧ RdAt w' g (r.byte 101) ∧ Only (At g) w w' := by
  have H := Lib.hid h
  clear h
  go_enter Tryd.func28, Tryd.ntmps28
  go_wp2_with (go_at_call 42; refine (rdr_skip g r 101 _ H.out).mono ?_; rintro e w1 ⟨rfl, hr, ho⟩; have HR := Lib.hid hr; have HO := Lib.hid ho; clear hr ho)
  refine bodyPost_end (results_none rfl _ _ _) rfl ?_
  exact ⟨rfl, HR.out, HO.out⟩
end Go.Proofs.YtemeglofblnnmaaDoor
