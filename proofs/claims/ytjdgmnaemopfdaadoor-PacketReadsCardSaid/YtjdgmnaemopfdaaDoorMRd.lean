/- The reader again: its bytes stay in blocks of S (printed by gen_in.py out of RdrB .. RdrF). -/
import Derived.Test.YtjdgmnaemopfdaaDoorRdr
import Derived.Test.YtjdgmnaemopfdaaDoorRdrF
import Derived.Test.YtjdgmnaemopfdaaDoorReadB
namespace Go.Proofs.YtjdgmnaemopfdaaDoor.In
variable {S : Nat → Prop}
section
open Go.RowKit Go.Lib
set_option linter.unusedVariables false
attribute [local go_sem ↓] Go.wp_at_zero Go.wp_at_succ

/-- Block g is a reader that is at r. -/
def RdAt (S : Nat → Prop) (w : World) (g : Nat) (r : Rd) : Prop :=
  r.Sane ∧ ∃ A c, Hld w g 76 #[.slice A r.b.length c, .int .i64 r.err] ∧ Src w (fun k => k ≠ g ∧ S k) 1 A r.b.length (byteCells r.b) ∧ r.b.length ≤ c ∧ c ≤ 9223372036854775807
theorem RdAt.noth {w w' : World} {g : Nat} {r : Rd} (h : RdAt S w g r) (ho : Only Noth w w') : RdAt S w' g r := by
  obtain ⟨hs, A, c, h1, h2, h3, h4⟩ := h
  exact ⟨hs, A, c, h1.only ho (fun h => h), h2.only ho (fun _ _ h => h), h3, h4⟩
theorem RdAt.only {w w' : World} {g : Nat} {r : Rd} (h : RdAt S w g r) {F : Nat → Prop} (ho : Only F w w') (hF : ∀ k, F k → w.heap.size ≤ k) : RdAt S w' g r := by
  obtain ⟨hs, A, c, h1, h2, h3, h4⟩ := h
  have ho2 : Only Noth w w' := ho.mono (fun k hk hl => by have := hF k hk; omega)
  exact ⟨hs, A, c, h1.only ho2 (fun h => h), h2.only ho2 (fun _ _ h => h), h3, h4⟩
theorem RdAt.lt {w : World} {g : Nat} {r : Rd} (h : RdAt S w g r) : g < w.heap.size := by
  obtain ⟨_, A, c, h1, _⟩ := h
  exact h1.lt
theorem Only.at_tr {g : Nat} {a b c : World} (h : Only (At g) a b) (k : Only (At g) b c) : Only (At g) a c := h.trans k (fun _ h _ => h)
theorem Only.at_of {g : Nat} {a b : World} (h : Only Noth a b) : Only (At g) a b := h.mono (fun _ h _ => h.elim)

theorem rdr_new (A : Option Addr) (c : Nat) (l : List UInt8) (w : World) (hp : Part w (.slice A l.length c) l) :
    Calls Tryd.prog 19 #[.slice A l.length c] w fun e w' => e = .returned (.pointer (some ⟨w.heap.size, 0, none⟩)) ∧ RdAt (fun k => k < w.heap.size) w' w.heap.size ⟨l, 0⟩ ∧ Only Noth w w' := by
  have HP := Lib.hid hp
  clear hp
  go_enter Tryd.func19, Tryd.ntmps19
  go_wp2
  go_ret
  obtain ⟨A', c', he, hs, h1, h2⟩ := HP.out
  have e1 := (Value.slice.inj he).1
  have e2 := (Value.slice.inj he).2.2
  subst e1
  subst e2
  refine ⟨rfl, ⟨Rd.sane_mk _, A, c, Hld.new w _ _, ?_, h1, h2⟩, (Only.refl _ _).alloc _⟩
  exact (hs.alloc _).mono (fun k hk _ => ⟨Nat.ne_of_lt hk, hk⟩)

theorem rdr_fail (g : Nat) (r : Rd) (e : Int) (he : e ≠ 0) (w : World) (h : RdAt S w g r) :
    Calls Tryd.prog 45 #[.pointer (some ⟨g, 0, none⟩), .int .i64 e] w fun x w' => x = .returned (.tuple #[]) ∧ RdAt S w' g (Rd.stop e) ∧ Only (At g) w w' := by
  obtain ⟨hs, A, c, h1, h2, h3, h4⟩ := h
  have c0 := h1.cell 0
  have c1 := h1.cell 1
  have f0 := h1.free 0
  have f1 := h1.free 1
  simp at c0 c1
  have HL := Lib.hid h1
  clear h1 h2 hs
  go_enter Tryd.func45, Tryd.ntmps45
  go_wp2
  refine bodyPost_end (results_none rfl _ _ _) rfl ?_
  refine ⟨rfl, ⟨Rd.sane_stop _, none, 0, (HL.out.set_ 0 _).set_ 1 _, Src.none_ _ _ _ _, Nat.le_refl _, by omega⟩, ?_⟩
  exact ((Only.refl (At g) w).setCell (p := ⟨g, 0, none⟩) (fun _ => rfl) _).setCell (p := ⟨g, 1, none⟩) (fun _ => rfl) _

theorem rdr_first_err (g : Nat) (r : Rd) (w : World) (h : RdAt S w g r) (he : r.err ≠ 0) :
    Calls Tryd.prog 44 #[.pointer (some ⟨g, 0, none⟩)] w fun x w' => x = .returned (.tuple #[.int .u8 0, .bool false]) ∧ w = w' := by
  obtain ⟨hs, A, c, h1, h2, h3, h4⟩ := h
  have c0 := h1.cell 0
  have c1 := h1.cell 1
  simp at c0 c1
  have e1 : (r.err != 0) = true := by simpa using he
  clear h1 h2 hs he
  go_enter Tryd.func44, Tryd.ntmps44
  go_wp2
  go_ret2
  exact ⟨rfl, rfl⟩
theorem rdr_first_nil (g : Nat) (w : World) (h : RdAt S w g ⟨[], 0⟩) :
    Calls Tryd.prog 44 #[.pointer (some ⟨g, 0, none⟩)] w fun x w' => x = .returned (.tuple #[.int .u8 0, .bool false]) ∧ RdAt S w' g (Rd.stop 3) ∧ Only (At g) w w' := by
  have H := Lib.hid h
  obtain ⟨hs, A, c, h1, h2, h3, h4⟩ := h
  have c0 := h1.cell 0
  have c1 := h1.cell 1
  simp at c0 c1
  clear h1 h2 hs
  go_enter Tryd.func44, Tryd.ntmps44
  go_wp2_with (go_at_call 45; refine (rdr_fail g _ 3 (by decide) _ H.out).mono ?_; rintro e w1 ⟨rfl, hr, ho⟩; have HR := Lib.hid hr; have HO := Lib.hid ho; clear hr ho)
  go_ret2
  exact ⟨rfl, HR.out, HO.out⟩
theorem rdr_first (g : Nat) (b : UInt8) (t : List UInt8) (w : World) (h : RdAt S w g ⟨b :: t, 0⟩) :
    Calls Tryd.prog 44 #[.pointer (some ⟨g, 0, none⟩)] w fun x w' => x = .returned (.tuple #[.int .u8 b.toNat, .bool true]) ∧ w = w' := by
  obtain ⟨hs, A, c, h1, h2, h3, h4⟩ := h
  have c0 := h1.cell 0
  have c1 := h1.cell 1
  simp at c0 c1
  obtain ⟨ad, rfl, _, _, hc⟩ := h2.2 (by simp)
  have d0 := hc 0 (.int .u8 b.toNat) rfl
  have d1 : w.cell? ad = some (.int .u8 b.toNat) := by
    have e : ad.add 0 = ad := by unfold Addr.add; split <;> simp_all
    rw [e] at d0
    exact d0
  clear h1 h2 hs hc
  go_enter Tryd.func44, Tryd.ntmps44
  go_wp2
  go_ret2
  exact ⟨rfl, rfl⟩

theorem rdr_err (g : Nat) (r : Rd) (w : World) (h : RdAt S w g r) :
    Calls Tryd.prog 21 #[.pointer (some ⟨g, 0, none⟩)] w fun x w' => x = .returned (.int .i64 r.err) ∧ w = w' := by
  obtain ⟨hs, A, c, h1, h2, h3, h4⟩ := h
  have c1 := h1.cell 1
  simp at c1
  clear h1 h2 hs
  go_enter Tryd.func21, Tryd.ntmps21
  go_wp2
  go_ret
  exact ⟨rfl, rfl⟩
theorem rdr_left (g : Nat) (r : Rd) (w : World) (h : RdAt S w g r) :
    Calls Tryd.prog 22 #[.pointer (some ⟨g, 0, none⟩)] w fun x w' => x = .returned (.int .i64 r.b.length) ∧ w = w' := by
  obtain ⟨hs, A, c, h1, h2, h3, h4⟩ := h
  have c0 := h1.cell 0
  simp at c0
  clear h1 h2 hs
  go_enter Tryd.func22, Tryd.ntmps22
  go_wp2
  go_ret
  exact ⟨rfl, rfl⟩
theorem rdr_more (g : Nat) (r : Rd) (w : World) (h : RdAt S w g r) :
    Calls Tryd.prog 26 #[.pointer (some ⟨g, 0, none⟩)] w fun x w' => x = .returned (.bool r.more) ∧ w = w' := by
  obtain ⟨hs, A, c, h1, h2, h3, h4⟩ := h
  have c0 := h1.cell 0
  simp at c0
  have HM := Lib.hid (show r.more = match r.b with | [] => false | c :: _ => c != 101 from rfl)
  cases hb : r.b with
  | nil =>
    rw [hb] at c0 HM
    simp only [List.length_nil] at c0
    clear h1 h2 hs hb h3
    go_enter Tryd.func26, Tryd.ntmps26
    go_wp2
    go_ret
    exact ⟨ret_bool (by rw [HM.out]), rfl⟩
  | cons d t =>
    rw [hb] at c0 HM h2 h3
    obtain ⟨ad, rfl, _, _, hc⟩ := h2.2 (by simp)
    have d0 := hc 0 (.int .u8 d.toNat) rfl
    have d1 : w.cell? ad = some (.int .u8 d.toNat) := by
      have e : ad.add 0 = ad := by unfold Addr.add; split <;> simp_all
      rw [e] at d0
      exact d0
    clear h1 h2 hs hc hb
    go_enter Tryd.func26, Tryd.ntmps26
    go_wp2
    go_ret
    refine ⟨ret_bool ?_, rfl⟩
    rw [HM.out]
    have := u8_beq d 101
    simp only [bne] at *
    exact congrArg (fun b => !b) this

/-- The bytes behind the first one. -/
theorem rdr_skip_hit (g : Nat) (b : UInt8) (t : List UInt8) (w : World) (h : RdAt S w g ⟨b :: t, 0⟩) :
    Calls Tryd.prog 51 #[.pointer (some ⟨g, 0, none⟩), .int .u8 b.toNat] w fun x w' => x = .returned (.tuple #[]) ∧ RdAt S w' g ⟨t, 0⟩ ∧ Only (At g) w w' := by
  have H := Lib.hid h
  obtain ⟨hs, A, c, h1, h2, h3, h4⟩ := h
  have c0 := h1.cell 0
  have f0 := h1.free 0
  simp at c0
  obtain ⟨A', hsl, hs2⟩ := slice_from c 1 h2 (by simp) h3
  simp only [show ((1 : Nat) : Int) = 1 from rfl, List.length_cons, Nat.add_sub_cancel] at hsl
  have HS := Lib.hid hs2
  have HL := Lib.hid h1
  have h3' : t.length + 1 ≤ c := by simpa using h3
  clear h1 h2 hs hs2 h3
  go_enter Tryd.func51, Tryd.ntmps51
  go_wp2_with (go_at_call 44; refine (rdr_first g b t _ H.out).mono ?_; rintro e w1 ⟨rfl, rfl⟩)
  refine bodyPost_end (results_none rfl _ _ _) rfl ?_
  refine ⟨rfl, ⟨Rd.sane_mk _, A', c - 1, HL.out.set_ 0 _, ?_, by simp; omega, by omega⟩, ?_⟩
  · have := HS.out
    simp only [List.drop_one, List.tail_cons] at this
    exact this.setCell (p := ⟨g, 0, none⟩) (fun h => h.1 rfl) _
  · exact (Only.refl (At g) w).setCell (p := ⟨g, 0, none⟩) (fun _ => rfl) _

theorem rdr_skip_miss (g : Nat) (b d : UInt8) (t : List UInt8) (hd : b ≠ d) (w : World) (h : RdAt S w g ⟨b :: t, 0⟩) :
    Calls Tryd.prog 51 #[.pointer (some ⟨g, 0, none⟩), .int .u8 d.toNat] w fun x w' => x = .returned (.tuple #[]) ∧ RdAt S w' g (Rd.stop 4) ∧ Only (At g) w w' := by
  have H := Lib.hid h
  have e1 : ((b.toNat : Int) == (d.toNat : Int)) = false := by rw [u8_beq]; simpa using hd
  have e2 : ((b.toNat : Int) != (d.toNat : Int)) = true := by simp only [bne, e1]; rfl
  clear h hd
  go_enter Tryd.func51, Tryd.ntmps51
  go_wp2_with (first | (go_at_call 44; refine (rdr_first g b t _ H.out).mono ?_; rintro e w1 ⟨rfl, rfl⟩) | (go_at_call 45; refine (rdr_fail g _ 4 (by decide) _ H.out).mono ?_; rintro e w1 ⟨rfl, hr, ho⟩; have HR := Lib.hid hr; have HO := Lib.hid ho; clear hr ho))
  refine bodyPost_end (results_none rfl _ _ _) rfl ?_
  exact ⟨rfl, HR.out, HO.out⟩
theorem rdr_skip_nil (g : Nat) (d : UInt8) (w : World) (h : RdAt S w g ⟨[], 0⟩) :
    Calls Tryd.prog 51 #[.pointer (some ⟨g, 0, none⟩), .int .u8 d.toNat] w fun x w' => x = .returned (.tuple #[]) ∧ RdAt S w' g (Rd.stop 3) ∧ Only (At g) w w' := by
  have H := Lib.hid h
  clear h
  go_enter Tryd.func51, Tryd.ntmps51
  go_wp2_with (go_at_call 44; refine (rdr_first_nil g _ H.out).mono ?_; rintro e w1 ⟨rfl, hr, ho⟩; have HR := Lib.hid hr; have HO := Lib.hid ho; clear hr ho)
  refine bodyPost_end (results_none rfl _ _ _) rfl ?_
  exact ⟨rfl, HR.out, HO.out⟩
theorem rdr_skip_err (g : Nat) (r : Rd) (d : UInt8) (w : World) (h : RdAt S w g r) (he : r.err ≠ 0) :
    Calls Tryd.prog 51 #[.pointer (some ⟨g, 0, none⟩), .int .u8 d.toNat] w fun x w' => x = .returned (.tuple #[]) ∧ RdAt S w' g r ∧ Only (At g) w w' := by
  have H := Lib.hid h
  have E := Lib.hid he
  clear h he
  go_enter Tryd.func51, Tryd.ntmps51
  go_wp2_with (go_at_call 44; refine (rdr_first_err g _ _ H.out E.out).mono ?_; rintro e w1 ⟨rfl, rfl⟩)
  refine bodyPost_end (results_none rfl _ _ _) rfl ?_
  exact ⟨rfl, H.out, Only.refl _ _⟩
theorem rdr_skip (g : Nat) (r : Rd) (d : UInt8) (w : World) (h : RdAt S w g r) :
    Calls Tryd.prog 51 #[.pointer (some ⟨g, 0, none⟩), .int .u8 d.toNat] w fun x w' => x = .returned (.tuple #[]) ∧ RdAt S w' g (r.byte d) ∧ Only (At g) w w' := by
  obtain ⟨b, err⟩ := r
  by_cases he : err = 0
  · subst he
    cases b with
    | nil => exact rdr_skip_nil g d w h
    | cons c t =>
      by_cases hc : c = d
      · subst hc
        rw [Rd.byte_laid]
        exact rdr_skip_hit g c t w h
      · have : Rd.byte ⟨c :: t, 0⟩ d = Rd.stop 4 := by simp [Rd.byte, hc]
        rw [this]
        exact rdr_skip_miss g c d t hc w h
  · rw [Rd.stopped_byte (r := ⟨b, err⟩) he]
    exact rdr_skip_err g _ d w h he
theorem rdr_open (g : Nat) (r : Rd) (w : World) (h : RdAt S w g r) :
    Calls Tryd.prog 25 #[.pointer (some ⟨g, 0, none⟩)] w fun x w' => x = .returned (.tuple #[]) ∧ RdAt S w' g (r.byte 108) ∧ Only (At g) w w' := by
  have H := Lib.hid h
  clear h
  go_enter Tryd.func25, Tryd.ntmps25
  go_wp2_with (go_at_call 51; refine (rdr_skip g r 108 _ H.out).mono ?_; rintro e w1 ⟨rfl, hr, ho⟩; have HR := Lib.hid hr; have HO := Lib.hid ho; clear hr ho)
  refine bodyPost_end (results_none rfl _ _ _) rfl ?_
  exact ⟨rfl, HR.out, HO.out⟩
theorem rdr_close (g : Nat) (r : Rd) (w : World) (h : RdAt S w g r) :
    Calls Tryd.prog 27 #[.pointer (some ⟨g, 0, none⟩)] w fun x w' => x = .returned (.tuple #[]) ∧ RdAt S w' g (r.byte 101) ∧ Only (At g) w w' := by
  have H := Lib.hid h
  clear h
  go_enter Tryd.func27, Tryd.ntmps27
  go_wp2_with (go_at_call 51; refine (rdr_skip g r 101 _ H.out).mono ?_; rintro e w1 ⟨rfl, hr, ho⟩; have HR := Lib.hid hr; have HO := Lib.hid ho; clear hr ho)
  refine bodyPost_end (results_none rfl _ _ _) rfl ?_
  exact ⟨rfl, HR.out, HO.out⟩
end
section
open Go.RowKit Go.Lib
set_option linter.unusedVariables false
attribute [local go_sem ↓] Go.wp_at_zero Go.wp_at_succ

theorem idx_bytes_n (A : Option Addr) (n c : Nat) (l : List UInt8) (hn : l.length = n) (b : UInt8) (w : World) (S : Nat → Prop) (hs : Src w S 1 A l.length (byteCells l)) (hl : n ≤ 9223372036854775807) :
    Calls Tryd.prog 72 #[.slice A n c, .int .u8 b.toNat] w fun e w' => e = .returned (.int .i64 (idxI l b)) ∧ w = w' := by
  subst hn
  exact idx_bytes A c l b w S hs hl
theorem take_min (b : List UInt8) (L m : Nat) (hm : m = min b.length (L + 1)) : b.take m = b.take (L + 1) := by
  rcases Nat.lt_or_ge b.length (L + 1) with h | h
  · rw [List.take_of_length_le (by omega), List.take_of_length_le (by omega)]
  · rw [show m = L + 1 by omega]
theorem idxI_some {b : List UInt8} {c : UInt8} {L i : Nat} (h : Rd.at? b c L = some i) : idxI (b.take (L + 1)) c = (i : Int) := by
  unfold idxI
  unfold Rd.at? at h
  rw [h]
theorem idxI_none {b : List UInt8} {c : UInt8} {L : Nat} (h : Rd.at? b c L = none) : idxI (b.take (L + 1)) c = -1 := by
  unfold idxI
  unfold Rd.at? at h
  rw [h]

set_option maxRecDepth 100000 in
theorem rdr_until_none (g : Nat) (b : List UInt8) (c : UInt8) (L : Nat) (hL : L ≤ 100) (hx : Rd.at? b c L = none) (w : World) (h : RdAt S w g ⟨b, 0⟩) :
    Calls Tryd.prog 46 #[.pointer (some ⟨g, 0, none⟩), .int .u8 c.toNat, .int .i64 L] w fun x w' => x = .returned (.tuple #[.int .i64 0, .bool false]) ∧ RdAt S w' g (Rd.stop (if L < b.length then 4 else 3)) ∧ Only (At g) w w' := by
  have H := Lib.hid h
  obtain ⟨hs, A, cc, h1, h2, h3, h4⟩ := h
  simp only at h1 h2 h3
  have c0 := h1.cell 0
  simp at c0
  obtain ⟨m, hm⟩ : ∃ m, m = min b.length (L + 1) := ⟨_, rfl⟩
  obtain ⟨A', hsl, hs2⟩ := slice_to cc m h2 (by omega) h3
  have hb : b.length ≤ 9223372036854775807 := by omega
  have hwr : IntKind.i64.wrap ((L : Int) + 1) = (L : Int) + 1 := IntWalk.i64_in _ (by omega)
  have hmn : min (b.length : Int) ((L : Int) + 1) = (m : Int) := by omega
  have hif : (if (L : Int) + 1 < (b.length : Int) then (L : Int) + 1 else (b.length : Int)) = (m : Int) := by split <;> omega
  have hml : m ≤ 9223372036854775807 := by omega
  have HS := Lib.hid hs2
  have HM := Lib.hid (take_min b L m hm)
  have HL := Lib.hid (show (b.take m).length = m by rw [List.length_take]; omega)
  have HI := Lib.hid (idxI_none hx)
  clear h1 h2 hs hs2 hm hx h3
  by_cases hlt : L < b.length
  all_goals
    first | rw [if_pos hlt] | rw [if_neg hlt]
    go_enter Tryd.func46, Tryd.ntmps46
    go_wp2_with fail
    go_region_held3 (fun w' => w'.cell? ⟨g, 0, none⟩ = some (.slice A b.length cc)) (go_keep)
      ((go_at_call 72; refine (idx_bytes_n A' m cc (b.take m) HL.out c _ _ HS.out.drew hml).mono ?_; rintro e w1 ⟨rfl, rfl⟩; rw [HM.out, HI.out]))
    go_wp2_with (go_at_call 45; refine (rdr_fail g _ _ (by decide) _ (H.out.noth (Only.refl Noth w).drew)).mono ?_; rintro e w1 ⟨rfl, hr, ho⟩; have HR := Lib.hid hr; have HO := Lib.hid ho; clear hr ho)
    go_ret2
    exact ⟨rfl, HR.out, HO.out.undrew⟩
end
section
open Go.RowKit Go.Lib
set_option linter.unusedVariables false
attribute [local go_sem ↓] Go.wp_at_zero Go.wp_at_succ

set_option maxRecDepth 100000 in
set_option maxHeartbeats 800000 in
theorem rdr_until_ok (g : Nat) (b : List UInt8) (c : UInt8) (L : Nat) (hL : L ≤ 100) (i : Nat) (hx : Rd.at? b c L = some i) (n : Int) (hn : num (b.take i) = some n) (w : World) (h : RdAt S w g ⟨b, 0⟩) (he : Env w) :
    Calls Tryd.prog 46 #[.pointer (some ⟨g, 0, none⟩), .int .u8 c.toNat, .int .i64 L] w fun x w' => x = .returned (.tuple #[.int .i64 n, .bool true]) ∧ RdAt S w' g ⟨b.drop (i + 1), 0⟩ ∧ Only (At g) w w' := by
  have E := Lib.hid (he.noth (Only.refl Noth w).drew)
  obtain ⟨hs, A, cc, h1, h2, h3, h4⟩ := h
  simp only at h1 h2 h3
  have hsz := h1.lt
  have c0 := h1.cell 0
  simp at c0
  obtain ⟨m, hm⟩ : ∃ m, m = min b.length (L + 1) := ⟨_, rfl⟩
  obtain ⟨hi1, hi2, -, -, -⟩ := Rd.at_some hx
  obtain ⟨n0, n1, hni⟩ := num_some.1 hn
  obtain ⟨A', hsl, hs2⟩ := slice_to cc m h2 (by omega) h3
  obtain ⟨A2, hsl2, hs3⟩ := slice_to cc i h2 (by omega) h3
  obtain ⟨A3, hsl3, hs4⟩ := slice_from cc (i + 1) h2 (by omega) h3
  rw [show ((i + 1 : Nat) : Int) = (i : Int) + 1 from rfl] at hsl3
  have hb : b.length ≤ 9223372036854775807 := by omega
  have hil : (b.take i).length = i := by rw [List.length_take]; omega
  have hcv := conv_b8n i cc hil (by rw [hil] at hs3; exact hs3.drew)
  have hok : atoiAll (ByteArray.mk (b.take i).toArray).data.toList = .ok n := by
    show atoiAll (b.take i) = .ok n
    rw [← hni]
    exact atoi_itoa n n0 n1
  have hsmall : (ByteArray.mk (b.take i).toArray).size ≤ 281474976710656 := by
    show (b.take i).toArray.size ≤ _
    rw [List.size_toArray, hil]
    omega
  obtain ⟨s, hsv⟩ : ∃ s, s = ByteArray.mk (b.take i).toArray := ⟨_, rfl⟩
  have hits : ByteArray.mk (itoa n).toArray = s := by rw [hsv, hni]
  rw [← hsv] at hcv hok hsmall
  have hif : (if (L : Int) + 1 < (b.length : Int) then (L : Int) + 1 else (b.length : Int)) = (m : Int) := by split <;> omega
  have hml : m ≤ 9223372036854775807 := by omega
  have hwr : IntKind.i64.wrap ((L : Int) + 1) = (L : Int) + 1 := IntWalk.i64_in _ (by omega)
  have hmn : min (b.length : Int) ((L : Int) + 1) = (m : Int) := by omega
  have HS := Lib.hid hs2
  have HS4 := Lib.hid hs4
  have HM := Lib.hid (take_min b L m hm)
  have HLN := Lib.hid (show (b.take m).length = m by rw [List.length_take]; omega)
  have HI := Lib.hid (idxI_some hx)
  have HLD := Lib.hid h1
  have HOK := Lib.hid hok
  have H3 := Lib.hid h3
  have HSM := Lib.hid hsmall
  have HIT := Lib.hid hits
  have hilc : (i : Int) < b.length := by omega
  have HCV := Lib.hid hcv
  have HSL2 := Lib.hid hsl2
  have HSL3 := Lib.hid hsl3
  have hdl : (b.drop (i + 1)).length = b.length - (i + 1) := by rw [List.length_drop]
  have HDL := Lib.hid hdl
  clear h1 h2 hs hs2 hs3 hs4 hm hx h3 hn hni hil hok hsmall hsv hits he hdl hcv hsl2 hsl3
  go_enter Tryd.func46, Tryd.ntmps46
  go_wp2_with fail
  go_region_held3 (fun w' => w'.cell? ⟨g, 0, none⟩ = some (.slice A b.length cc)) (go_keep)
    ((go_at_call 72; refine (idx_bytes_n A' m cc (b.take m) HLN.out c _ _ HS.out.drew hml).mono ?_; rintro e w1 ⟨rfl, rfl⟩; rw [HM.out, HI.out]))
  have hcv := HCV.out
  have hsl2 := HSL2.out
  have hsl3 := HSL3.out
  go_wp2_with fail
  refine (parse_ok s HSM.out n HOK.out _).mono ?_
  rintro e w1 ⟨rfl, ho⟩
  have HO := Lib.hid ho
  have E1 := Lib.hid (E.out.noth ho)
  have HLD1 := Lib.hid (HLD.out.drew.only ho (fun h => h))
  clear ho
  go_wp2_with fail
  refine (format_int n n0 n1 _ E1.out.tab).mono ?_
  rintro e w2 ⟨rfl, ho⟩
  rw [HIT.out]
  have HO2 := Lib.hid (HO.out.tr ho)
  have HLD2 := Lib.hid (HLD1.out.only ho (fun h => h))
  have d0 := HLD2.out.cell 0
  have f0 := HLD2.out.free 0
  simp at d0
  clear ho
  go_wp2
  go_ret2
  refine ⟨rfl, ⟨Rd.sane_mk _, A3, cc - (i + 1), ?_, ?_, ?_, by omega⟩, ?_⟩
  · rw [HDL.out]; exact HLD2.out.set_ 0 _
  · exact (HS4.out.drew.only HO2.out (fun _ _ h => h)).setCell (p := ⟨g, 0, none⟩) (fun h => h.1 rfl) _
  · simp only; rw [HDL.out]; have := H3.out; omega
  · exact (Only.at_of HO2.out).undrew.setCell (p := ⟨g, 0, none⟩) (fun _ => rfl) _

set_option maxRecDepth 100000 in
set_option maxHeartbeats 800000 in
theorem rdr_until_bad (g : Nat) (b : List UInt8) (c : UInt8) (L : Nat) (hL : L ≤ 100) (i : Nat) (hx : Rd.at? b c L = some i) (hn : num (b.take i) = none) (w : World) (h : RdAt S w g ⟨b, 0⟩) (he : Env w) :
    Calls Tryd.prog 46 #[.pointer (some ⟨g, 0, none⟩), .int .u8 c.toNat, .int .i64 L] w fun x w' => x = .returned (.tuple #[.int .i64 0, .bool false]) ∧ RdAt S w' g (Rd.stop 4) ∧ Only (At g) w w' := by
  have E := Lib.hid (he.noth (Only.refl Noth w).drew)
  have H := Lib.hid h
  obtain ⟨hs, A, cc, h1, h2, h3, h4⟩ := h
  simp only at h1 h2 h3
  have c0 := h1.cell 0
  simp at c0
  obtain ⟨m, hm⟩ : ∃ m, m = min b.length (L + 1) := ⟨_, rfl⟩
  obtain ⟨hi1, hi2, -, -, -⟩ := Rd.at_some hx
  obtain ⟨A', hsl, hs2⟩ := slice_to cc m h2 (by omega) h3
  obtain ⟨A2, hsl2, hs3⟩ := slice_to cc i h2 (by omega) h3
  have hb : b.length ≤ 9223372036854775807 := by omega
  have hil : (b.take i).length = i := by rw [List.length_take]; omega
  have hcv := conv_b8n i cc hil (by rw [hil] at hs3; exact hs3.drew)
  have hsmall : (ByteArray.mk (b.take i).toArray).size ≤ 281474976710656 := by
    show (b.take i).toArray.size ≤ _
    rw [List.size_toArray, hil]
    omega
  obtain ⟨s, hsv⟩ : ∃ s, s = ByteArray.mk (b.take i).toArray := ⟨_, rfl⟩
  have hsd : s.data.toList = b.take i := by rw [hsv]
  rw [← hsv] at hcv hsmall
  have hif : (if (L : Int) + 1 < (b.length : Int) then (L : Int) + 1 else (b.length : Int)) = (m : Int) := by split <;> omega
  have hml : m ≤ 9223372036854775807 := by omega
  have hwr : IntKind.i64.wrap ((L : Int) + 1) = (L : Int) + 1 := IntWalk.i64_in _ (by omega)
  have hmn : min (b.length : Int) ((L : Int) + 1) = (m : Int) := by omega
  have HS := Lib.hid hs2
  have HM := Lib.hid (take_min b L m hm)
  have HLN := Lib.hid (show (b.take m).length = m by rw [List.length_take]; omega)
  have HI := Lib.hid (idxI_some hx)
  have HSM := Lib.hid hsmall
  have hilc : (i : Int) < b.length := by omega
  have HCV := Lib.hid hcv
  have HSL2 := Lib.hid hsl2
  clear hcv hsl2 h1 h2 hs hs2 hs3 hm hx h3 hil hsmall hsv he
  by_cases hk : ∃ k, atoiAll s.data.toList = .ok k
  · obtain ⟨k, hk⟩ := hk
    have hr := atoi_range hk
    have hne : ((ByteArray.mk (itoa k).toArray).toList == s.toList) = false := by
      rw [ByteArray.toList_eq, ByteArray.toList_eq, beq_eq_false_iff_ne]
      intro e
      rw [hsd] at e
      exact num_none.1 hn k hr.1 hr.2 e
    obtain ⟨s2, hs2v⟩ : ∃ s2, s2 = ByteArray.mk (itoa k).toArray := ⟨_, rfl⟩
    rw [← hs2v] at hne
    have HK := Lib.hid hk
    have H2 := Lib.hid hs2v.symm
    have hne2 : ¬ s2.toList = s.toList := by simpa using hne
    clear hk hsd hn hs2v
    go_enter Tryd.func46, Tryd.ntmps46
    go_wp2_with fail
    go_region_held3 (fun w' => w'.cell? ⟨g, 0, none⟩ = some (.slice A b.length cc)) (go_keep)
      ((go_at_call 72; refine (idx_bytes_n A' m cc (b.take m) HLN.out c _ _ HS.out.drew hml).mono ?_; rintro e w1 ⟨rfl, rfl⟩; rw [HM.out, HI.out]))
    have hcv := HCV.out
    have hsl2 := HSL2.out
    go_wp2_with fail
    refine (parse_ok s HSM.out k HK.out _).mono ?_
    rintro e w1 ⟨rfl, ho⟩
    have HO := Lib.hid ho
    have E1 := Lib.hid (E.out.noth ho)
    clear ho
    go_wp2_with fail
    refine (format_int k hr.1 hr.2 _ E1.out.tab).mono ?_
    rintro e w2 ⟨rfl, ho⟩
    rw [H2.out]
    have HO2 := Lib.hid (HO.out.tr ho)
    clear ho
    go_wp2_with fail
    refine (rdr_fail g _ _ (by decide) _ ((H.out.noth (Only.refl Noth w).drew).noth HO2.out)).mono ?_
    rintro e w3 ⟨rfl, hr, ho⟩
    have HR := Lib.hid hr
    have HO3 := Lib.hid ho
    clear hr ho
    go_wp2
    go_ret2
    exact ⟨rfl, HR.out, ((Only.at_of HO2.out).at_tr HO3.out).undrew⟩
  · have hk : ∀ k, atoiAll s.data.toList ≠ .ok k := fun k h => hk ⟨k, h⟩
    have HK := Lib.hid hk
    clear hk hsd hn
    go_enter Tryd.func46, Tryd.ntmps46
    go_wp2_with fail
    go_region_held3 (fun w' => w'.cell? ⟨g, 0, none⟩ = some (.slice A b.length cc)) (go_keep)
      ((go_at_call 72; refine (idx_bytes_n A' m cc (b.take m) HLN.out c _ _ HS.out.drew hml).mono ?_; rintro e w1 ⟨rfl, rfl⟩; rw [HM.out, HI.out]))
    have hcv := HCV.out
    have hsl2 := HSL2.out
    go_wp2_with fail
    refine (parse_err s HSM.out HK.out _ E.out).mono ?_
    rintro e w1 ⟨k, T, N, rfl, ho⟩
    have HO := Lib.hid ho
    clear ho
    go_wp2_with fail
    refine (rdr_fail g _ _ (by decide) _ ((H.out.noth (Only.refl Noth w).drew).noth HO.out)).mono ?_
    rintro e w3 ⟨rfl, hr, ho⟩
    have HR := Lib.hid hr
    have HO3 := Lib.hid ho
    clear hr ho
    go_wp2
    go_ret2
    exact ⟨rfl, HR.out, ((Only.at_of HO.out).at_tr HO3.out).undrew⟩

theorem rdr_until (g : Nat) (b : List UInt8) (c : UInt8) (L : Nat) (hL : L ≤ 100) (w : World) (h : RdAt S w g ⟨b, 0⟩) (he : Env w) :
    Calls Tryd.prog 46 #[.pointer (some ⟨g, 0, none⟩), .int .u8 c.toNat, .int .i64 L] w fun x w' => x = .returned (.tuple #[.int .i64 (Rd.till b c L).2.1, .bool (Rd.till b c L).2.2]) ∧ RdAt S w' g (Rd.till b c L).1 ∧ Only (At g) w w' := by
  cases hx : Rd.at? b c L with
  | none =>
    rw [show Rd.till b c L = (Rd.stop (if L < b.length then 4 else 3), 0, false) by unfold Rd.till; rw [hx]]
    exact rdr_until_none g b c L hL hx w h
  | some i =>
    cases hn : num (b.take i) with
    | none =>
      rw [show Rd.till b c L = (Rd.stop 4, 0, false) by unfold Rd.till; rw [hx]; simp only; rw [hn]]
      exact rdr_until_bad g b c L hL i hx hn w h he
    | some n =>
      rw [show Rd.till b c L = (⟨b.drop (i + 1), 0⟩, n, true) by unfold Rd.till; rw [hx]; simp only; rw [hn]]
      exact rdr_until_ok g b c L hL i hx n hn w h he
end
section
open Go.RowKit Go.Lib
set_option linter.unusedVariables false
attribute [local go_sem ↓] Go.wp_at_zero Go.wp_at_succ

theorem rdr_int_err (g : Nat) (r : Rd) (w : World) (h : RdAt S w g r) (he : r.err ≠ 0) :
    Calls Tryd.prog 20 #[.pointer (some ⟨g, 0, none⟩)] w fun x w' => x = .returned (.int .i64 0) ∧ RdAt S w' g r ∧ Only (At g) w w' := by
  have H := Lib.hid h
  have E := Lib.hid he
  clear h he
  go_enter Tryd.func20, Tryd.ntmps20
  go_wp2_with (go_at_call 44; refine (rdr_first_err g _ _ H.out E.out).mono ?_; rintro e w1 ⟨rfl, rfl⟩)
  go_ret
  exact ⟨rfl, H.out, Only.refl _ _⟩
theorem rdr_int_nil (g : Nat) (w : World) (h : RdAt S w g ⟨[], 0⟩) :
    Calls Tryd.prog 20 #[.pointer (some ⟨g, 0, none⟩)] w fun x w' => x = .returned (.int .i64 0) ∧ RdAt S w' g (Rd.stop 3) ∧ Only (At g) w w' := by
  have H := Lib.hid h
  clear h
  go_enter Tryd.func20, Tryd.ntmps20
  go_wp2_with (go_at_call 44; refine (rdr_first_nil g _ H.out).mono ?_; rintro e w1 ⟨rfl, hr, ho⟩; have HR := Lib.hid hr; have HO := Lib.hid ho; clear hr ho)
  go_ret
  exact ⟨rfl, HR.out, HO.out⟩
theorem rdr_int_miss (g : Nat) (b : UInt8) (t : List UInt8) (hd : b ≠ 105) (w : World) (h : RdAt S w g ⟨b :: t, 0⟩) :
    Calls Tryd.prog 20 #[.pointer (some ⟨g, 0, none⟩)] w fun x w' => x = .returned (.int .i64 0) ∧ RdAt S w' g (Rd.stop 4) ∧ Only (At g) w w' := by
  have H := Lib.hid h
  have e1 : ((b.toNat : Int) == 105) = false := by
    have := u8_beq b 105
    rw [show ((105 : UInt8).toNat : Int) = 105 from rfl] at this
    rw [this]; simpa using hd
  have e2 : ((b.toNat : Int) != 105) = true := by simp only [bne, e1]; rfl
  clear h hd
  go_enter Tryd.func20, Tryd.ntmps20
  go_wp2_with (first | (go_at_call 44; refine (rdr_first g b t _ H.out).mono ?_; rintro e w1 ⟨rfl, rfl⟩) | (go_at_call 45; refine (rdr_fail g _ 4 (by decide) _ H.out).mono ?_; rintro e w1 ⟨rfl, hr, ho⟩; have HR := Lib.hid hr; have HO := Lib.hid ho; clear hr ho))
  go_ret
  exact ⟨rfl, HR.out, HO.out⟩
theorem Env.set_ {w : World} (h : Env w) {g : Nat} (hg : Hi g) (i : Nat) (v : Value) : Env (w.setCell ⟨g, i, none⟩ v) := h.at_ ((Only.refl (At g) w).setCell (p := ⟨g, i, none⟩) (fun _ => rfl) v) hg
theorem rdr_int_hit (g : Nat) (t : List UInt8) (w : World) (h : RdAt S w g ⟨105 :: t, 0⟩) (he : Env w) (hg : Hi g) :
    Calls Tryd.prog 20 #[.pointer (some ⟨g, 0, none⟩)] w fun x w' => x = .returned (.int .i64 (Rd.till t 101 20).2.1) ∧ RdAt S w' g (Rd.till t 101 20).1 ∧ Only (At g) w w' := by
  have H := Lib.hid h
  have E := Lib.hid he
  have HG := Lib.hid hg
  obtain ⟨hs, A, c, h1, h2, h3, h4⟩ := h
  simp only at h1 h2 h3
  have c0 := h1.cell 0
  have f0 := h1.free 0
  simp at c0
  obtain ⟨A', hsl, hs2⟩ := slice_from c 1 h2 (by simp) h3
  simp only [show ((1 : Nat) : Int) = 1 from rfl, List.length_cons, Nat.add_sub_cancel] at hsl
  simp only [List.drop_one, List.tail_cons] at hs2
  have h3' : t.length + 1 ≤ c := by simpa using h3
  have HA := Lib.hid (show RdAt S (w.setCell ⟨g, 0, none⟩ (.slice A' t.length (c - 1))) g ⟨t, 0⟩ from ⟨Rd.sane_mk _, A', c - 1, h1.set_ 0 _, hs2.setCell (p := ⟨g, 0, none⟩) (fun h => h.1 rfl) _, by simp only; omega, by omega⟩)
  obtain ⟨n, hn⟩ : ∃ n, n = (Rd.till t 101 20).2.1 := ⟨_, rfl⟩
  have HN := Lib.hid hn
  rw [← hn]
  clear h1 h2 hs hs2 h3 he hg hn
  go_enter Tryd.func20, Tryd.ntmps20
  go_wp2_with (first | (go_at_call 44; refine (rdr_first g 105 t _ H.out).mono ?_; rintro e w1 ⟨rfl, rfl⟩) | (go_at_call 46; refine (rdr_until g t 101 20 (by decide) _ HA.out (E.out.set_ HG.out _ _)).mono ?_; rintro e w1 ⟨rfl, hr, ho⟩; rw [← HN.out]; have HR := Lib.hid hr; have HO := Lib.hid ho; clear hr ho))
  go_ret
  exact ⟨rfl, HR.out, ((Only.refl (At g) w).setCell (p := ⟨g, 0, none⟩) (fun _ => rfl) _).at_tr HO.out⟩
theorem rdr_int (g : Nat) (r : Rd) (w : World) (h : RdAt S w g r) (he : Env w) (hg : Hi g) :
    Calls Tryd.prog 20 #[.pointer (some ⟨g, 0, none⟩)] w fun x w' => x = .returned (.int .i64 r.int.2) ∧ RdAt S w' g r.int.1 ∧ Only (At g) w w' := by
  obtain ⟨b, err⟩ := r
  by_cases hz : err = 0
  · subst hz
    cases b with
    | nil => exact rdr_int_nil g w h
    | cons c t =>
      by_cases hc : c = 105
      · subst hc
        have : Rd.int ⟨105 :: t, 0⟩ = ((Rd.till t 101 20).1, (Rd.till t 101 20).2.1) := by simp [Rd.int]
        rw [this]
        exact rdr_int_hit g t w h he hg
      · have : Rd.int ⟨c :: t, 0⟩ = (Rd.stop 4, 0) := by simp [Rd.int, hc]
        rw [this]
        exact rdr_int_miss g c t hc w h
  · rw [Rd.stopped_int (r := ⟨b, err⟩) hz]
    exact rdr_int_err g _ w h hz

theorem rdr_text_err (g : Nat) (r : Rd) (m : Int) (w : World) (h : RdAt S w g r) (he : r.err ≠ 0) :
    Calls Tryd.prog 23 #[.pointer (some ⟨g, 0, none⟩), .int .i64 m] w fun x w' => x = .returned (.string ⟨#[]⟩) ∧ RdAt S w' g r ∧ Only (At g) w w' := by
  have H := Lib.hid h
  have E := Lib.hid he
  clear h he
  go_enter Tryd.func23, Tryd.ntmps23
  go_wp2_with (go_at_call 44; refine (rdr_first_err g _ _ H.out E.out).mono ?_; rintro e w1 ⟨rfl, rfl⟩)
  go_ret
  exact ⟨rfl, H.out, Only.refl _ _⟩
theorem rdr_text_nil (g : Nat) (m : Int) (w : World) (h : RdAt S w g ⟨[], 0⟩) :
    Calls Tryd.prog 23 #[.pointer (some ⟨g, 0, none⟩), .int .i64 m] w fun x w' => x = .returned (.string ⟨#[]⟩) ∧ RdAt S w' g (Rd.stop 3) ∧ Only (At g) w w' := by
  have H := Lib.hid h
  clear h
  go_enter Tryd.func23, Tryd.ntmps23
  go_wp2_with (go_at_call 44; refine (rdr_first_nil g _ H.out).mono ?_; rintro e w1 ⟨rfl, hr, ho⟩; have HR := Lib.hid hr; have HO := Lib.hid ho; clear hr ho)
  go_ret
  exact ⟨rfl, HR.out, HO.out⟩
theorem rdr_text_miss (g : Nat) (b : UInt8) (t : List UInt8) (m : Int) (hd : b.toNat < 48 ∨ 57 < b.toNat) (w : World) (h : RdAt S w g ⟨b :: t, 0⟩) :
    Calls Tryd.prog 23 #[.pointer (some ⟨g, 0, none⟩), .int .i64 m] w fun x w' => x = .returned (.string ⟨#[]⟩) ∧ RdAt S w' g (Rd.stop 4) ∧ Only (At g) w w' := by
  have H := Lib.hid h
  clear h
  rcases hd with hd | hd
  · have h1 : (b.toNat : Int) < 48 := by omega
    clear hd
    go_enter Tryd.func23, Tryd.ntmps23
    go_wp2_with (first | (go_at_call 44; refine (rdr_first g b t _ H.out).mono ?_; rintro e w1 ⟨rfl, rfl⟩) | (go_at_call 45; refine (rdr_fail g _ 4 (by decide) _ H.out).mono ?_; rintro e w1 ⟨rfl, hr, ho⟩; have HR := Lib.hid hr; have HO := Lib.hid ho; clear hr ho))
    go_ret
    exact ⟨rfl, HR.out, HO.out⟩
  · have h1 : 57 < (b.toNat : Int) := by omega
    have h2 : ¬ (b.toNat : Int) < 48 := by omega
    have h3 : decide ((b.toNat : Int) < 48) = false := by simpa using h2
    clear hd
    go_enter Tryd.func23, Tryd.ntmps23
    go_wp2_with (first | (go_at_call 44; refine (rdr_first g b t _ H.out).mono ?_; rintro e w1 ⟨rfl, rfl⟩) | (go_at_call 45; refine (rdr_fail g _ 4 (by decide) _ H.out).mono ?_; rintro e w1 ⟨rfl, hr, ho⟩; have HR := Lib.hid hr; have HO := Lib.hid ho; clear hr ho))
    go_ret
    exact ⟨rfl, HR.out, HO.out⟩
end
section
open Go.RowKit Go.Lib
set_option linter.unusedVariables false
set_option maxRecDepth 100000
attribute [local go_sem ↓] Go.wp_at_zero Go.wp_at_succ

theorem till_digit {c : UInt8} {t : List UInt8} (h1 : 48 ≤ c.toNat) (h : (Rd.till (c :: t) 58 10).2.2 = true) : 0 ≤ (Rd.till (c :: t) 58 10).2.1 ∧ (Rd.till (c :: t) 58 10).1.err = 0 ∧ (Rd.till (c :: t) 58 10).2.1 ≤ 9223372036854775807 := by
  have e : Rd.till (c :: t) 58 10 = ((Rd.till (c :: t) 58 10).1, (Rd.till (c :: t) 58 10).2.1, true) := by rw [← h]
  obtain ⟨h0, h2, h3, h4, _⟩ := Rd.till_back e
  refine ⟨?_, h0, h4⟩
  generalize (Rd.till (c :: t) 58 10).1 = x at *
  generalize (Rd.till (c :: t) 58 10).2.1 = n at *
  by_cases hn : n < 0
  · unfold itoa at h2
    rw [if_pos hn] at h2
    injection h2 with h2 _
    subst h2
    exact absurd h1 (by decide)
  · omega

section
variable (g : Nat) (c : UInt8) (t : List UInt8) (m : Int) (hc1 : 48 ≤ c.toNat) (hc2 : c.toNat ≤ 57) (w : World) (h : RdAt S w g ⟨c :: t, 0⟩) (he : Env w)
include hc1 hc2 h he
theorem rdr_text_no (hk : (Rd.till (c :: t) 58 10).2.2 = false) :
    Calls Tryd.prog 23 #[.pointer (some ⟨g, 0, none⟩), .int .i64 m] w fun x w' => x = .returned (.string ⟨#[]⟩) ∧ RdAt S w' g (Rd.till (c :: t) 58 10).1 ∧ Only (At g) w w' := by
  have H := Lib.hid h
  have E := Lib.hid he
  have K := Lib.hid hk
  have h1 : ¬ (c.toNat : Int) < 48 := by omega
  have h2 : ¬ 57 < (c.toNat : Int) := by omega
  have h3 : decide ((c.toNat : Int) < 48) = false := by simpa using h1
  have h4 : decide (57 < (c.toNat : Int)) = false := by simpa using h2
  clear h he hk hc1 hc2
  go_enter Tryd.func23, Tryd.ntmps23
  go_wp2_with (first | (go_at_call 44; refine (rdr_first g c t _ H.out).mono ?_; rintro e w1 ⟨rfl, rfl⟩) | (go_at_call 46; refine (rdr_until g (c :: t) 58 10 (by decide) _ H.out E.out).mono ?_; rintro e w1 ⟨rfl, hr, ho⟩; rw [K.out]; have HR := Lib.hid hr; have HO := Lib.hid ho; clear hr ho))
  go_ret
  exact ⟨rfl, HR.out, HO.out⟩
theorem rdr_text_bad (e : Int) (he0 : e ≠ 0) (n : Int) (hn : (Rd.till (c :: t) 58 10).2.1 = n) (x : Rd) (hx : (Rd.till (c :: t) 58 10).1 = x) (hk : (Rd.till (c :: t) 58 10).2.2 = true)
    (hcase : (1000000000 < n ∧ e = 4) ∨ (n ≤ 1000000000 ∧ m < n ∧ e = 5) ∨ (n ≤ 1000000000 ∧ n ≤ m ∧ (x.b.length : Int) < n ∧ e = 3)) :
    Calls Tryd.prog 23 #[.pointer (some ⟨g, 0, none⟩), .int .i64 m] w fun x w' => x = .returned (.string ⟨#[]⟩) ∧ RdAt S w' g (Rd.stop e) ∧ Only (At g) w w' := by
  have hd := till_digit hc1 hk
  rw [hn] at hd
  have hn0 := hd.1
  have hn1 := hd.2.2
  have H := Lib.hid h
  have E := Lib.hid he
  have K := Lib.hid hk
  have N := Lib.hid hn
  have X := Lib.hid hx
  have h1 : ¬ (c.toNat : Int) < 48 := by omega
  have h2 : ¬ 57 < (c.toNat : Int) := by omega
  have h3 : decide ((c.toNat : Int) < 48) = false := by simpa using h1
  have h4 : decide (57 < (c.toNat : Int)) = false := by simpa using h2
  clear h he hk hc1 hc2 hn hx hd he0
  rcases hcase with ⟨g1, rfl⟩ | ⟨g1, g2, rfl⟩ | ⟨g1, g2, g3, rfl⟩
  all_goals
    go_enter Tryd.func23, Tryd.ntmps23
    go_wp2_with (first | (go_at_call 44; refine (rdr_first g c t _ H.out).mono ?_; rintro e w1 ⟨rfl, rfl⟩) | (go_at_call 46; refine (rdr_until g (c :: t) 58 10 (by decide) _ H.out E.out).mono ?_; rintro e w1 ⟨rfl, hr, ho⟩; rw [K.out, N.out]; rw [X.out] at hr; have HR := Lib.hid hr; have HO := Lib.hid ho; obtain ⟨-, A, cc, k1, -⟩ := hr; have c0 := k1.cell 0; simp at c0; clear k1 ho) | (go_at_call 45; refine (rdr_fail g _ _ (by decide) _ HR.out).mono ?_; rintro e w2 ⟨rfl, hr, ho⟩; have HR2 := Lib.hid hr; have HO2 := Lib.hid ho; clear hr ho))
    go_ret
    exact ⟨rfl, HR2.out, HO.out.at_tr HO2.out⟩
theorem rdr_text_yes (n : Nat) (hn : (Rd.till (c :: t) 58 10).2.1 = (n : Int)) (x : Rd) (hx : (Rd.till (c :: t) 58 10).1 = x) (hk : (Rd.till (c :: t) 58 10).2.2 = true) (g1 : (n : Int) ≤ 1000000000) (g2 : (n : Int) ≤ m) (g3 : n ≤ x.b.length) :
    Calls Tryd.prog 23 #[.pointer (some ⟨g, 0, none⟩), .int .i64 m] w fun y w' => y = .returned (.string ⟨(x.b.take n).toArray⟩) ∧ RdAt S w' g ⟨x.b.drop n, 0⟩ ∧ Only (At g) w w' := by
  have hd := till_digit hc1 hk
  rw [hn] at hd
  have hxe := hd.2.1
  rw [hx] at hxe
  have HXE := Lib.hid hxe
  have H := Lib.hid h
  have E := Lib.hid he
  have K := Lib.hid hk
  have N := Lib.hid hn
  have X := Lib.hid hx
  have h1 : ¬ (c.toNat : Int) < 48 := by omega
  have h2 : ¬ 57 < (c.toNat : Int) := by omega
  have h3 : decide ((c.toNat : Int) < 48) = false := by simpa using h1
  have h4 : decide (57 < (c.toNat : Int)) = false := by simpa using h2
  have g4 : (n : Int) ≤ x.b.length := by omega
  clear h he hk hc1 hc2 hn hx hd hxe
  go_enter Tryd.func23, Tryd.ntmps23
  go_wp2_with (first | (go_at_call 44; refine (rdr_first g c t _ H.out).mono ?_; rintro e w1 ⟨rfl, rfl⟩) | fail)
  refine (rdr_until g (c :: t) 58 10 (by decide) _ H.out E.out).mono ?_
  rintro e w1 ⟨rfl, hr, ho⟩
  rw [K.out, N.out]
  rw [X.out] at hr
  have HO := Lib.hid ho
  obtain ⟨-, A, cc, k1, k2, k3, k4⟩ := hr
  have c0 := k1.cell 0
  have f0 := k1.free 0
  simp at c0
  have hil : (x.b.take n).length = n := by rw [List.length_take]; omega
  obtain ⟨A2, hsl2, hs3⟩ := slice_to cc n k2 g3 k3
  obtain ⟨A3, hsl3, hs4⟩ := slice_from cc n k2 g3 k3
  have hcv := conv_b8n n cc hil (by rw [hil] at hs3; exact hs3)
  have HLD := Lib.hid k1
  have HS4 := Lib.hid hs4
  have K3 := Lib.hid k3
  have hc63 : (x.b.length : Int) ≤ 9223372036854775807 := by omega
  clear k1 k2 k3 ho hs3 hs4 hil
  go_wp2
  go_ret
  have hdl : (x.b.drop n).length = x.b.length - n := by rw [List.length_drop]
  refine ⟨rfl, ⟨Rd.sane_mk _, A3, cc - n, ?_, ?_, ?_, by omega⟩, HO.out.setCell (p := ⟨g, 0, none⟩) (fun _ => rfl) _⟩
  · have := HLD.out.set_ 0 (.slice A3 (x.b.length - n) (cc - n))
    rw [HXE.out] at this
    simp only
    rw [hdl]
    exact this
  · exact HS4.out.setCell (p := ⟨g, 0, none⟩) (fun h => h.1 rfl) _
  · simp only; rw [hdl]; have := K3.out; omega
end
theorem rdr_text (g : Nat) (r : Rd) (m : Int) (w : World) (h : RdAt S w g r) (he : Env w) :
    Calls Tryd.prog 23 #[.pointer (some ⟨g, 0, none⟩), .int .i64 m] w fun x w' => x = .returned (.string ⟨(r.text m).2.toArray⟩) ∧ RdAt S w' g (r.text m).1 ∧ Only (At g) w w' := by
  obtain ⟨b, err⟩ := r
  by_cases hz : err = 0
  · subst hz
    cases b with
    | nil => exact rdr_text_nil g m w h
    | cons c t =>
      by_cases hc : c.toNat < 48 ∨ 57 < c.toNat
      · have : Rd.text ⟨c :: t, 0⟩ m = (Rd.stop 4, []) := by simp [Rd.text, hc]
        rw [this]
        exact rdr_text_miss g c t m hc w h
      · have h1 : 48 ≤ c.toNat := by omega
        have h2 : c.toNat ≤ 57 := by omega
        cases hk : (Rd.till (c :: t) 58 10).2.2 with
        | false =>
          have : Rd.text ⟨c :: t, 0⟩ m = ((Rd.till (c :: t) 58 10).1, []) := by simp [Rd.text, hc, hk]
          rw [this]
          exact rdr_text_no g c t m h1 h2 w h he hk
        | true =>
          have : Rd.text ⟨c :: t, 0⟩ m = Rd.rest (Rd.till (c :: t) 58 10).1 (Rd.till (c :: t) 58 10).2.1 m := by simp [Rd.text, hc, hk]
          rw [this]
          have hd := till_digit h1 hk
          obtain ⟨n, hn⟩ := Int.eq_ofNat_of_zero_le hd.1
          unfold Rd.rest
          by_cases g1 : 1000000000 < (Rd.till (c :: t) 58 10).2.1
          · rw [if_pos g1]
            exact rdr_text_bad g c t m h1 h2 w h he 4 (by decide) _ rfl _ rfl hk (.inl ⟨g1, rfl⟩)
          · rw [if_neg g1]
            by_cases g2 : m < (Rd.till (c :: t) 58 10).2.1
            · rw [if_pos g2]
              exact rdr_text_bad g c t m h1 h2 w h he 5 (by decide) _ rfl _ rfl hk (.inr (.inl ⟨by omega, g2, rfl⟩))
            · rw [if_neg g2]
              by_cases g3 : ((Rd.till (c :: t) 58 10).1.b.length : Int) < (Rd.till (c :: t) 58 10).2.1
              · rw [if_pos g3]
                exact rdr_text_bad g c t m h1 h2 w h he 3 (by decide) _ rfl _ rfl hk (.inr (.inr ⟨by omega, by omega, g3, rfl⟩))
              · rw [if_neg g3, hn]
                exact rdr_text_yes g c t m h1 h2 w h he n hn _ rfl hk (by omega) (by omega) (by omega)
  · rw [Rd.stopped_text (r := ⟨b, err⟩) hz]
    exact rdr_text_err g _ m w h hz
end
end Go.Proofs.YtjdgmnaemopfdaaDoor.In
namespace Go.Proofs.YtjdgmnaemopfdaaDoor.In
open Go.RowKit Go.Lib
set_option linter.unusedVariables false
set_option maxRecDepth 100000
attribute [local go_sem ↓] Go.wp_at_zero Go.wp_at_succ
variable {S : Nat → Prop}
theorem rdr_text_v (g : Nat) (r r' : Rd) (m : Int) (k : ByteArray) (hx : r.text m = (r', k.data.toList)) (w : World) (h : RdAt S w g r) (he : Env w) :
    Calls Tryd.prog 23 #[.pointer (some ⟨g, 0, none⟩), .int .i64 m] w fun x w' => x = .returned (.string k) ∧ RdAt S w' g r' ∧ Only (At g) w w' := by
  have := rdr_text g r m w h he
  rw [hx] at this
  exact this
theorem rdr_int_v (g : Nat) (r r' : Rd) (n : Int) (hx : r.int = (r', n)) (w : World) (h : RdAt S w g r) (he : Env w) (hg : Hi g) :
    Calls Tryd.prog 20 #[.pointer (some ⟨g, 0, none⟩)] w fun x w' => x = .returned (.int .i64 n) ∧ RdAt S w' g r' ∧ Only (At g) w w' := by
  have := rdr_int g r w h he hg
  rw [hx] at this
  exact this
theorem rdr_open_v (g : Nat) (r r' : Rd) (hx : r.byte 108 = r') (w : World) (h : RdAt S w g r) :
    Calls Tryd.prog 25 #[.pointer (some ⟨g, 0, none⟩)] w fun x w' => x = .returned (.tuple #[]) ∧ RdAt S w' g r' ∧ Only (At g) w w' := by
  subst hx; exact rdr_open g r w h
theorem rdr_close_v (g : Nat) (r r' : Rd) (hx : r.byte 101 = r') (w : World) (h : RdAt S w g r) :
    Calls Tryd.prog 27 #[.pointer (some ⟨g, 0, none⟩)] w fun x w' => x = .returned (.tuple #[]) ∧ RdAt S w' g r' ∧ Only (At g) w w' := by
  subst hx; exact rdr_close g r w h

theorem RdAt.far {w w' : World} {g b : Nat} {r : Rd} {t : TypeId} {cs : Array Value} (h : RdAt S w g r) (hb : Hld w b t cs) (hc : NoU8 cs) (hne : g ≠ b) (ho : Only (fun k => k = b) w w') : RdAt S w' g r := by
  obtain ⟨hs, A, c, h1, h2, h3, h4⟩ := h
  exact ⟨hs, A, c, h1.only ho hne, ((h2.off hb hc).only ho (fun k hk => hk.2)).mono (fun k hk _ => hk.1), h3, h4⟩
/-- Within Read: the reader, the result's box, the entry's box. -/
structure Mid (S : Nat → Prop) (w : World) (g a b : Nat) (W : World) (r : Rd) (k : ByteArray) (t o : Int) (v : ByteArray) (u : Int) : Prop where
  rd : RdAt S W g r
  env : Env W
  res : Hld W a 64 #[.string ⟨#[]⟩, .int .i64 0, .int .u16 0, .string ⟨#[]⟩, .int .i64 0]
  ent : Hld W b 64 #[.string k, .int .i64 t, .int .u16 o, .string v, .int .i64 u]
  only : Only (At g) w W
  g_lt : g < w.heap.size
  a_le : w.heap.size ≤ a
  b_gt : a < b
  hi : Hi g
section
variable {w W W' : World} {g a b : Nat} {r r' : Rd} {k v : ByteArray} {t o u : Int}
theorem Mid.call (h : Mid S w g a b W r k t o v u) (hr : RdAt S W' g r') (ho : Only (At g) W W') : Mid S w g a b W' r' k t o v u :=
  ⟨hr, h.env.at_ ho h.hi, h.res.only ho (fun e => by have := h.g_lt; have := h.a_le; have e : a = g := e; omega), h.ent.only ho (fun e => by have := h.g_lt; have := h.a_le; have := h.b_gt; have e : b = g := e; omega), h.only.at_tr ho, h.g_lt, h.a_le, h.b_gt, h.hi⟩
theorem Mid.hib (h : Mid S w g a b W r k t o v u) : Hi b := by
  obtain ⟨x, y, z⟩ := h.hi
  have := h.g_lt; have := h.a_le; have := h.b_gt
  exact ⟨by omega, by omega, by omega⟩
theorem Mid.put {k' v' : ByteArray} {t' o' u' : Int} (h : Mid S w g a b W r k t o v u) (hb : Hld W' b 64 #[.string k', .int .i64 t', .int .u16 o', .string v', .int .i64 u']) (ho : Only (fun j => j = b) W W') : Mid S w g a b W' r k' t' o' v' u' := by
  have := h.g_lt; have := h.a_le; have := h.b_gt
  exact ⟨h.rd.far h.ent (noU8_ent k v t o u) (by omega) ho, h.env.at_ ho h.hib, h.res.only ho (by omega), hb, h.only.trans ho (fun j hj hl => by omega), h.g_lt, h.a_le, h.b_gt, h.hi⟩
theorem Mid.set3 (h : Mid S w g a b W r k t o v u) (v' : ByteArray) : Mid S w g a b (W.setCell ⟨b, 3, none⟩ (.string v')) r k t o v' u :=
  h.put (h.ent.set_ 3 (.string v')) ((Only.refl (fun j => j = b) W).setCell (p := ⟨b, 3, none⟩) (fun _ => rfl) _)
theorem Mid.set4 (h : Mid S w g a b W r k t o v u) (u' : Int) : Mid S w g a b (W.setCell ⟨b, 4, none⟩ (.int .i64 u')) r k t o v u' :=
  h.put (h.ent.set_ 4 (.int .i64 u')) ((Only.refl (fun j => j = b) W).setCell (p := ⟨b, 4, none⟩) (fun _ => rfl) _)
theorem Mid.set2 (h : Mid S w g a b W r k t o v u) (o' : Int) : Mid S w g a b (W.setCell ⟨b, 2, none⟩ (.int .u16 o')) r k t o' v u :=
  h.put (h.ent.set_ 2 (.int .u16 o')) ((Only.refl (fun j => j = b) W).setCell (p := ⟨b, 2, none⟩) (fun _ => rfl) _)
theorem Mid.noth (h : Mid S w g a b W r k t o v u) (ho : Only Noth W W') : Mid S w g a b W' r k t o v u :=
  h.call (h.rd.noth ho) (Only.at_of ho)
theorem Mid.out {cs : Array Value} (h : Mid S w g a b W r k t o v u) (hb : Hld W' a 64 cs) (ho : Only (fun j => j = a) W W') : RdAt S W' g r ∧ Only (At g) w W' := by
  have := h.g_lt; have := h.a_le; have := h.b_gt
  exact ⟨h.rd.far h.res (noU8_ent _ _ _ _ _) (by omega) ho, h.only.trans ho (fun j hj hl => by omega)⟩
end
/-- Ahead of the entry's box. -/
structure Pre (S : Nat → Prop) (w : World) (g : Nat) (W : World) (r : Rd) : Prop where
  rd : RdAt S W g r
  env : Env W
  res : Hld W w.heap.size 64 #[.string ⟨#[]⟩, .int .i64 0, .int .u16 0, .string ⟨#[]⟩, .int .i64 0]
  only : Only (At g) w W
  g_lt : g < w.heap.size
  hi : Hi g
theorem Pre.call {w W W' : World} {g : Nat} {r r' : Rd} (h : Pre S w g W r) (hr : RdAt S W' g r') (ho : Only (At g) W W') : Pre S w g W' r' :=
  ⟨hr, h.env.at_ ho h.hi, h.res.only ho (fun e => by have := h.g_lt; have e : w.heap.size = g := e; omega), h.only.at_tr ho, h.g_lt, h.hi⟩
theorem Pre.mid {w W W' : World} {g : Nat} {r : Rd} {k v : ByteArray} {t o u : Int} (h : Pre S w g W r) (c : Obj) (hc : c = .cells #[.string ⟨#[]⟩, .int .i64 0, .int .u16 0, .string ⟨#[]⟩, .int .i64 0] 64) (hb : Hld W' W.heap.size 64 #[.string k, .int .i64 t, .int .u16 o, .string v, .int .i64 u]) (ho : Only (fun j => j = W.heap.size) (W.alloc c) W') : Mid S w g w.heap.size W.heap.size W' r k t o v u := by
  subst hc
  have hx := h.res.lt
  have hr := h.rd.lt
  have hz := h.only.size
  have ho2 : Only (At g) W W' := ((Only.refl (At g) W).alloc _).trans ho (fun j hj hl => by omega)
  have ho3 : Only Noth W W' := ((Only.refl Noth W).alloc _).trans ho (fun j hj hl => by omega)
  exact ⟨h.rd.noth ho3, h.env.noth ho3, h.res.only ho3 (fun h => h), hb, h.only.at_tr ho2, h.g_lt, Nat.le_refl _, hx, h.hi⟩

set_option maxHeartbeats 4000000 in
theorem read_walk (g : Nat) (r r1 r2 r3 r4 r5 r6 r7 : Rd) (k v : ByteArray) (t o u q c : Int) (hst : Ent.Steps r r1 r2 r3 r4 r5 r6 r7 k v t o u) (hq : IntKind.u16.wrap o = q) (hc : (Ent.mk k t q v u).check = c)
    (hk : k.size ≤ 9223372036854775807) (hv : v.size ≤ 9223372036854775807) (w : World) (h : RdAt S w g r) (he : Env w) (hg : Hi g) (d1 d2 d3 d4 : Bool) (h1 : (r7.err != 0) = d1) (h2 : decide (o < 0) = d2) (h3 : decide (65535 < o) = d3) (h4 : (c != 0) = d4) :
    Calls Tryd.prog 61 #[.pointer (some ⟨g, 0, none⟩)] w fun e w' =>
      e = .returned (if (d1 || d2 || d3 || d4) = true then .agg #[.string ⟨#[]⟩, .int .i64 0, .int .u16 0, .string ⟨#[]⟩, .int .i64 0] else .agg #[.string k, .int .i64 t, .int .u16 q, .string v, .int .i64 u]) ∧ RdAt S w' g r7 ∧ Only (At g) w w' := by
  obtain ⟨x1, x2, x3, x4, x5, x6, x7⟩ := hst
  have X1 := Lib.hid x1
  have X2 := Lib.hid x2
  have X3 := Lib.hid x3
  have X4 := Lib.hid x4
  have X5 := Lib.hid x5
  have X6 := Lib.hid x6
  have X7 := Lib.hid x7
  have HC := Lib.hid hc
  have P := Lib.hid (show Pre S w g (w.alloc (.cells #[.string ⟨#[]⟩, .int .i64 0, .int .u16 0, .string ⟨#[]⟩, .int .i64 0] 64)) r from ⟨h.noth ((Only.refl _ _).alloc _), he.noth ((Only.refl _ _).alloc _), Hld.new _ _ _, (Only.refl _ _).alloc _, h.lt, hg⟩)
  have HH := Lib.hid (And.intro hg h.lt)
  clear x1 x2 x3 x4 x5 x6 x7 hc h he hg
  go_enter Tryd.func61, Tryd.ntmps61
  go_wp2_with fail
  refine (rdr_open_v g _ _ X1.out _ P.out.rd).mono ?_
  rintro e w1 ⟨rfl, hr, ho⟩
  have P1 := Lib.hid (P.out.call hr ho)
  clear hr ho P
  go_wp2_with fail
  refine (rdr_text_v g _ _ 1024 k X2.out _ P1.out.rd P1.out.env).mono ?_
  rintro e w2 ⟨rfl, hr, ho⟩
  have P2 := Lib.hid (P1.out.call hr ho)
  clear hr ho P1
  go_wp2_with fail
  refine (rdr_int_v g _ _ t X3.out _ P2.out.rd P2.out.env P2.out.hi).mono ?_
  rintro e w3 ⟨rfl, hr, ho⟩
  have P3 := Lib.hid (P2.out.call hr ho)
  clear hr ho P2
  go_wp2_with (refine wpList_store_whole rfl rfl 64 (.tmp 3) (.tmp 11) rfl w3.heap.size rfl #[.string k, .int .i64 t, .int .u16 0, .string ⟨#[]⟩, .int .i64 0] rfl 64 _ (Hld.new _ _ _) rfl (by simp [Value.oneCell']) (by kernel_rfl) ?_; intro w4 gb ho3 _; have M := Lib.hid (P3.out.mid _ rfl gb ho3); clear gb ho3)
  refine (rdr_int_v g _ _ o X4.out _ M.out.rd M.out.env M.out.hi).mono ?_
  rintro e w5 ⟨rfl, hr, ho⟩
  have M1 := Lib.hid (M.out.call hr ho)
  clear hr ho
  go_wp2_with fail
  refine (rdr_text_v g _ _ 8192 v X5.out _ M1.out.rd M1.out.env).mono ?_
  rintro e w6 ⟨rfl, hr, ho⟩
  have M2 := Lib.hid (M1.out.call hr ho)
  obtain ⟨y0, y1, y2, y3, y4⟩ := M2.out.ent.five
  have f3 := M2.out.ent.free 3
  clear hr ho M1 M P3
  go_wp2_with fail
  have M3 := Lib.hid (M2.out.set3 v)
  clear y0 y1 y2 y3 y4 f3
  refine (rdr_int_v g _ _ u X6.out _ M3.out.rd M3.out.env M3.out.hi).mono ?_
  rintro e w7 ⟨rfl, hr, ho⟩
  have M4 := Lib.hid (M3.out.call hr ho)
  obtain ⟨y0, y1, y2, y3, y4⟩ := M4.out.ent.five
  have f4 := M4.out.ent.free 4
  clear hr ho M2 M3
  go_wp2_with fail
  have M5 := Lib.hid (M4.out.set4 u)
  clear y0 y1 y2 y3 y4 f4
  refine (rdr_close_v g _ _ X7.out _ M5.out.rd).mono ?_
  rintro e w8 ⟨rfl, hr, ho⟩
  have M6 := Lib.hid (M5.out.call hr ho)
  obtain ⟨y0, y1, y2, y3, y4⟩ := M6.out.ent.five
  have f2 := M6.out.ent.free 2
  clear hr ho M4 M5
  go_wp2_with fail
  have M7 := Lib.hid (M6.out.set2 q)
  clear y0 y1 y2 y3 y4 f2
  refine (rdr_err g _ _ M7.out.rd).mono ?_
  rintro e w9 ⟨rfl, rfl⟩
  clear M6
  obtain ⟨y0, y1, y2, y3, y4⟩ := M7.out.ent.five
  have HD1 := h1
  cases d1
  · cases d2
    · cases d3
      · go_wp2_with fail
        refine (entry_check ⟨k, t, q, v, u⟩ hk hv _).mono ?_
        rintro e wa ⟨rfl, ho⟩
        rw [HC.out]
        have M8 := Lib.hid (M7.out.noth ho)
        clear y0 y1 y2 y3 y4 ho
        obtain ⟨y0, y1, y2, y3, y4⟩ := M8.out.ent.five
        cases d4
        · skip
          go_wp2_with (refine wpList_store_whole rfl rfl 64 (.tmp 2) (.tmp 42) rfl w.heap.size rfl #[.string k, .int .i64 t, .int .u16 q, .string v, .int .i64 u] rfl 64 _ (M8.out.res) rfl (by simp [Value.oneCell']) (by kernel_rfl) ?_; intro wz gb ho3 _; have Z := Lib.hid (M8.out.out gb ho3); obtain ⟨z0, z1, z2, z3, z4⟩ := gb.five; clear gb ho3)
          refine bodyPost_ret (v := .agg #[.string k, .int .i64 t, .int .u16 q, .string v, .int .i64 u]) (by simp [results, Tryd.results61, go_sem, z0, z1, z2, z3, z4]) rfl ⟨by simp, Z.out⟩
        · skip
          go_wp2_with (refine wpList_store_whole rfl rfl 64 (.tmp 2) (.tmp 41) rfl w.heap.size rfl #[.string ⟨#[]⟩, .int .i64 0, .int .u16 0, .string ⟨#[]⟩, .int .i64 0] rfl 64 _ (M8.out.res) rfl (by simp [Value.oneCell']) (by kernel_rfl) ?_; intro wz gb ho3 _; have Z := Lib.hid (M8.out.out gb ho3); obtain ⟨z0, z1, z2, z3, z4⟩ := gb.five; clear gb ho3)
          refine bodyPost_ret (v := .agg #[.string ⟨#[]⟩, .int .i64 0, .int .u16 0, .string ⟨#[]⟩, .int .i64 0]) (by simp [results, Tryd.results61, go_sem, z0, z1, z2, z3, z4]) rfl ⟨by simp, Z.out⟩
      · skip
        go_wp2_with (refine wpList_store_whole rfl rfl 64 (.tmp 2) (.tmp 41) rfl w.heap.size rfl #[.string ⟨#[]⟩, .int .i64 0, .int .u16 0, .string ⟨#[]⟩, .int .i64 0] rfl 64 _ (M7.out.res) rfl (by simp [Value.oneCell']) (by kernel_rfl) ?_; intro wz gb ho3 _; have Z := Lib.hid (M7.out.out gb ho3); obtain ⟨z0, z1, z2, z3, z4⟩ := gb.five; clear gb ho3)
        refine bodyPost_ret (v := .agg #[.string ⟨#[]⟩, .int .i64 0, .int .u16 0, .string ⟨#[]⟩, .int .i64 0]) (by simp [results, Tryd.results61, go_sem, z0, z1, z2, z3, z4]) rfl ⟨by simp, Z.out⟩
    · skip
      go_wp2_with (refine wpList_store_whole rfl rfl 64 (.tmp 2) (.tmp 41) rfl w.heap.size rfl #[.string ⟨#[]⟩, .int .i64 0, .int .u16 0, .string ⟨#[]⟩, .int .i64 0] rfl 64 _ (M7.out.res) rfl (by simp [Value.oneCell']) (by kernel_rfl) ?_; intro wz gb ho3 _; have Z := Lib.hid (M7.out.out gb ho3); obtain ⟨z0, z1, z2, z3, z4⟩ := gb.five; clear gb ho3)
      refine bodyPost_ret (v := .agg #[.string ⟨#[]⟩, .int .i64 0, .int .u16 0, .string ⟨#[]⟩, .int .i64 0]) (by simp [results, Tryd.results61, go_sem, z0, z1, z2, z3, z4]) rfl ⟨by simp, Z.out⟩
  · skip
    go_wp2_with (refine wpList_store_whole rfl rfl 64 (.tmp 2) (.tmp 41) rfl w.heap.size rfl #[.string ⟨#[]⟩, .int .i64 0, .int .u16 0, .string ⟨#[]⟩, .int .i64 0] rfl 64 _ (M7.out.res) rfl (by simp [Value.oneCell']) (by kernel_rfl) ?_; intro wz gb ho3 _; have Z := Lib.hid (M7.out.out gb ho3); obtain ⟨z0, z1, z2, z3, z4⟩ := gb.five; clear gb ho3)
    refine bodyPost_ret (v := .agg #[.string ⟨#[]⟩, .int .i64 0, .int .u16 0, .string ⟨#[]⟩, .int .i64 0]) (by simp [results, Tryd.results61, go_sem, z0, z1, z2, z3, z4]) rfl ⟨by simp, Z.out⟩
theorem entry_read (g : Nat) (r : Rd) (y : Ent) (z : Rd) (hr : Ent.Reads r y z) (w : World) (h : RdAt S w g r) (he : Env w) (hg : Hi g) :
    Calls Tryd.prog 61 #[.pointer (some ⟨g, 0, none⟩)] w fun e w' =>
      e = .returned (.agg #[.string y.key, .int .i64 y.time, .int .u16 y.org, .string y.val, .int .i64 y.til]) ∧ RdAt S w' g z ∧ Only (At g) w w' := by
  obtain ⟨r1, r2, r3, r4, r5, r6, k, v, t, o, u, hs, hy⟩ := hr
  have hk : k.size ≤ 1024 := by
    have h1 := text_long r1 1024
    rw [hs.a2] at h1
    have h1 : (k.size : Int) ≤ max 1024 0 := h1
    omega
  have hv : v.size ≤ 8192 := by
    have h1 := text_long r4 8192
    rw [hs.a5] at h1
    have h1 : (v.size : Int) ≤ max 8192 0 := h1
    omega
  refine (read_walk g r r1 r2 r3 r4 r5 r6 z k v t o u _ _ hs rfl rfl (by omega) (by omega) w h he hg _ _ _ _ rfl rfl rfl rfl).mono ?_
  rintro e w' ⟨he, h2⟩
  refine ⟨?_, h2⟩
  rw [he]
  rw [check_org k v t o]
  rcases hy with ⟨g1, g2, g3, g4, rfl⟩ | ⟨hn, rfl⟩
  · have e1 : IntKind.u16.wrap o = o := by
      simp [IntKind.wrap, IntKind.signed, IntKind.bits]; omega
    rw [e1, g1, g4]
    have b2 : decide (o < 0) = false := by simpa using g2
    have b3 : decide (65535 < o) = false := by simpa using g3
    rw [b2, b3]
    rfl
  · have : ((z.err != 0) || decide (o < 0) || decide (65535 < o) || ((Ent.mk k t o v u).check != 0)) = true := by
      by_cases a1 : z.err = 0
      · by_cases a2 : 0 ≤ o
        · by_cases a3 : o ≤ 65535
          · have a4 : (Ent.mk k t o v u).check ≠ 0 := fun h => hn ⟨a1, a2, a3, h⟩
            simp [a4]
          · simp [show 65535 < o by omega]
        · simp [show o < 0 by omega]
      · simp [a1]
    rw [if_pos this]
    rfl

end Go.Proofs.YtjdgmnaemopfdaaDoor.In
