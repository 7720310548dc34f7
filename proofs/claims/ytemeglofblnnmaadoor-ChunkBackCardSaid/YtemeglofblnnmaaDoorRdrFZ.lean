/- ben.Reader: Text. -/
import Derived.Test.YtemeglofblnnmaaDoorRdrEZ
namespace Go.Proofs.YtemeglofblnnmaaDoor
open Go.RowKit Go.Lib
set_option linter.unusedVariables false
set_option maxRecDepth 100000
attribute [local go_sem ↓] Go.wp_at_zero Go.wp_at_succ

theorem till_digit {c : UInt8} {t : List UInt8} (h1 : 48 ≤ c.toNat) (h : (Rd.till (c :: t) 58 10).2.2 = true) : 0 ≤ (Rd.till (c :: t) 58 10).2.1 ∧ (Rd.till (c :: t) 58 10).1.err = 0 ∧ (Rd.till (c :: t) 58 10).2.1 ≤ 9223372036854775807 := by
  have e : Rd.till (c :: t) 58 10 = ((Rd.till (c :: t) 58 10).1, (Rd.till (c :: t) 58 10).2.1, true) := by rw [← h]
  obtain ⟨h0, h2, h3, h4, _⟩ := Rd.till_back e
  refine ⟨?_, h0, h4⟩
  generalize (Rd.till (c :: t) 58 10).1 = x at *
  generalize (Rd.till (c :: t) 58 10).2.1 = n at *
  by_cases hn : n < 0
  · unfold itoa at h2
    rw [if_pos hn] at h2
    injection h2 with h2 _
    subst h2
    exact absurd h1 (by decide)
  · omega

section
variable (g : Nat) (c : UInt8) (t : List UInt8) (m : Int) (hc1 : 48 ≤ c.toNat) (hc2 : c.toNat ≤ 57) (w : World) (h : RdAt w g ⟨c :: t, 0⟩) (he : Env w)
include hc1 hc2 h he
theorem rdr_text_no (hk : (Rd.till (c :: t) 58 10).2.2 = false) :
    Calls Tryd.prog 27 #[.pointer (some ⟨g, 0, none⟩), .int .i64 m] w fun x w' => x = .returned (.string ⟨#[]⟩) ∧ RdAt w' g (Rd.till (c :: t) 58 10).1 ∧ Only (At g) w w' := by
  have H := Lib.hid h
  have E := Lib.hid he
  have K := Lib.hid hk
  have h1 : ¬ (c.toNat : Int) < 48 := by omega
  have h2 : ¬ 57 < (c.toNat : Int) := by omega
  have h3 : decide ((c.toNat : Int) < 48) = false := by simpa using h1
  have h4 : decide (57 < (c.toNat : Int)) = false := by simpa using h2
  clear h he hk hc1 hc2
  go_enter Tryd.func27, Tryd.ntmps27
  go_wp2_with (first | (go_at_call 43; refine (rdr_first g c t _ H.out).mono ?_; rintro e w1 ⟨rfl, rfl⟩) | (go_at_call 45; refine (rdr_until g (c :: t) 58 10 (by decide) _ H.out E.out).mono ?_; rintro e w1 ⟨rfl, hr, ho⟩; rw [K.out]; have HR := Lib.hid hr; have HO := Lib.hid ho; clear hr ho))
  go_ret
  exact ⟨rfl, HR.out, HO.out⟩
theorem rdr_text_bad (e : Int) (he0 : e ≠ 0) (n : Int) (hn : (Rd.till (c :: t) 58 10).2.1 = n) (x : Rd) (hx : (Rd.till (c :: t) 58 10).1 = x) (hk : (Rd.till (c :: t) 58 10).2.2 = true)
    (hcase : (1000000000 < n ∧ e = 4) ∨ (n ≤ 1000000000 ∧ m < n ∧ e = 5) ∨ (n ≤ 1000000000 ∧ n ≤ m ∧ (x.b.length : Int) < n ∧ e = 3)) :
    Calls Tryd.prog 27 #[.pointer (some ⟨g, 0, none⟩), .int .i64 m] w fun x w' => x = .returned (.string ⟨#[]⟩) ∧ RdAt w' g (Rd.stop e) ∧ Only (At g) w w' := by
  have hd := till_digit hc1 hk
  rw [hn] at hd
  have hn0 := hd.1
  have hn1 := hd.2.2
  have H := Lib.hid h
  have E := Lib.hid he
  have K := Lib.hid hk
  have N := Lib.hid hn
  have X := Lib.hid hx
  have h1 : ¬ (c.toNat : Int) < 48 := by omega
  have h2 : ¬ 57 < (c.toNat : Int) := by omega
  have h3 : decide ((c.toNat : Int) < 48) = false := by simpa using h1
  have h4 : decide (57 < (c.toNat : Int)) = false := by simpa using h2
  clear h he hk hc1 hc2 hn hx hd he0
  rcases hcase with ⟨g1, rfl⟩ | ⟨g1, g2, rfl⟩ | ⟨g1, g2, g3, rfl⟩
  all_goals
    go_enter Tryd.func27, Tryd.ntmps27
    go_wp2_with (first | (go_at_call 43; refine (rdr_first g c t _ H.out).mono ?_; rintro e w1 ⟨rfl, rfl⟩) | (go_at_call 45; refine (rdr_until g (c :: t) 58 10 (by decide) _ H.out E.out).mono ?_; rintro e w1 ⟨rfl, hr, ho⟩; rw [K.out, N.out]; rw [X.out] at hr; have HR := Lib.hid hr; have HO := Lib.hid ho; obtain ⟨-, A, cc, k1, -⟩ := hr; have c0 := k1.cell 0; simp at c0; clear k1 ho) | (go_at_call 44; refine (rdr_fail g _ _ (by decide) _ HR.out).mono ?_; rintro e w2 ⟨rfl, hr, ho⟩; have HR2 := Lib.hid hr; have HO2 := Lib.hid ho; clear hr ho))
    go_ret
    exact ⟨rfl, HR2.out, HO.out.at_tr HO2.out⟩
theorem rdr_text_yes (n : Nat) (hn : (Rd.till (c :: t) 58 10).2.1 = (n : Int)) (x : Rd) (hx : (Rd.till (c :: t) 58 10).1 = x) (hk : (Rd.till (c :: t) 58 10).2.2 = true) (g1 : (n : Int) ≤ 1000000000) (g2 : (n : Int) ≤ m) (g3 : n ≤ x.b.length) :
    Calls Tryd.prog 27 #[.pointer (some ⟨g, 0, none⟩), .int .i64 m] w fun y w' => y = .returned (.string ⟨(x.b.take n).toArray⟩) ∧ RdAt w' g ⟨x.b.drop n, 0⟩ ∧ Only (At g) w w' := by
  have hd := till_digit hc1 hk
  rw [hn] at hd
  have hxe := hd.2.1
  rw [hx] at hxe
  have HXE := Lib.hid hxe
  have H := Lib.hid h
  have E := Lib.hid he
  have K := Lib.hid hk
  have N := Lib.hid hn
  have X := Lib.hid hx
  have h1 : ¬ (c.toNat : Int) < 48 := by omega
  have h2 : ¬ 57 < (c.toNat : Int) := by omega
  have h3 : decide ((c.toNat : Int) < 48) = false := by simpa using h1
  have h4 : decide (57 < (c.toNat : Int)) = false := by simpa using h2
  have g4 : (n : Int) ≤ x.b.length := by omega
  clear h he hk hc1 hc2 hn hx hd hxe
  go_enter Tryd.func27, Tryd.ntmps27
  go_wp2_with (first | (go_at_call 43; refine (rdr_first g c t _ H.out).mono ?_; rintro e w1 ⟨rfl, rfl⟩) | fail)
  refine (rdr_until g (c :: t) 58 10 (by decide) _ H.out E.out).mono ?_
  rintro e w1 ⟨rfl, hr, ho⟩
  rw [K.out, N.out]
  rw [X.out] at hr
  have HO := Lib.hid ho
  obtain ⟨-, A, cc, k1, k2, k3, k4⟩ := hr
  have c0 := k1.cell 0
  have f0 := k1.free 0
  simp at c0
  have hil : (x.b.take n).length = n := by rw [List.length_take]; omega
  obtain ⟨A2, hsl2, hs3⟩ := slice_to cc n k2 g3 k3
  obtain ⟨A3, hsl3, hs4⟩ := slice_from cc n k2 g3 k3
  have hcv := conv_b8n n cc hil (by rw [hil] at hs3; exact hs3)
  have HLD := Lib.hid k1
  have HS4 := Lib.hid hs4
  have K3 := Lib.hid k3
  have hc63 : (x.b.length : Int) ≤ 9223372036854775807 := by omega
  clear k1 k2 k3 ho hs3 hs4 hil
  go_wp2
  go_ret
  have hdl : (x.b.drop n).length = x.b.length - n := by rw [List.length_drop]
  refine ⟨rfl, ⟨Rd.sane_mk _, A3, cc - n, ?_, ?_, ?_, by omega⟩, HO.out.setCell (p := ⟨g, 0, none⟩) (fun _ => rfl) _⟩
  · have := HLD.out.set_ 0 (.slice A3 (x.b.length - n) (cc - n))
    rw [HXE.out] at this
    simp only
    rw [hdl]
    exact this
  · exact HS4.out.setCell (p := ⟨g, 0, none⟩) (fun h => h rfl) _
  · simp only; rw [hdl]; have := K3.out; omega
end
theorem rdr_text (g : Nat) (r : Rd) (m : Int) (w : World) (h : RdAt w g r) (he : Env w) :
    Calls Tryd.prog 27 #[.pointer (some ⟨g, 0, none⟩), .int .i64 m] w fun x w' => x = .returned (.string ⟨(r.text m).2.toArray⟩) ∧ RdAt w' g (r.text m).1 ∧ Only (At g) w w' := by
  obtain ⟨b, err⟩ := r
  by_cases hz : err = 0
  · subst hz
    cases b with
    | nil => exact rdr_text_nil g m w h
    | cons c t =>
      by_cases hc : c.toNat < 48 ∨ 57 < c.toNat
      · have : Rd.text ⟨c :: t, 0⟩ m = (Rd.stop 4, []) := by simp [Rd.text, hc]
        rw [this]
        exact rdr_text_miss g c t m hc w h
      · have h1 : 48 ≤ c.toNat := by omega
        have h2 : c.toNat ≤ 57 := by omega
        cases hk : (Rd.till (c :: t) 58 10).2.2 with
        | false =>
          have : Rd.text ⟨c :: t, 0⟩ m = ((Rd.till (c :: t) 58 10).1, []) := by simp [Rd.text, hc, hk]
          rw [this]
          exact rdr_text_no g c t m h1 h2 w h he hk
        | true =>
          have : Rd.text ⟨c :: t, 0⟩ m = Rd.rest (Rd.till (c :: t) 58 10).1 (Rd.till (c :: t) 58 10).2.1 m := by simp [Rd.text, hc, hk]
          rw [this]
          have hd := till_digit h1 hk
          obtain ⟨n, hn⟩ := Int.eq_ofNat_of_zero_le hd.1
          unfold Rd.rest
          by_cases g1 : 1000000000 < (Rd.till (c :: t) 58 10).2.1
          · rw [if_pos g1]
            exact rdr_text_bad g c t m h1 h2 w h he 4 (by decide) _ rfl _ rfl hk (.inl ⟨g1, rfl⟩)
          · rw [if_neg g1]
            by_cases g2 : m < (Rd.till (c :: t) 58 10).2.1
            · rw [if_pos g2]
              exact rdr_text_bad g c t m h1 h2 w h he 5 (by decide) _ rfl _ rfl hk (.inr (.inl ⟨by omega, g2, rfl⟩))
            · rw [if_neg g2]
              by_cases g3 : ((Rd.till (c :: t) 58 10).1.b.length : Int) < (Rd.till (c :: t) 58 10).2.1
              · rw [if_pos g3]
                exact rdr_text_bad g c t m h1 h2 w h he 3 (by decide) _ rfl _ rfl hk (.inr (.inr ⟨by omega, by omega, g3, rfl⟩))
              · rw [if_neg g3, hn]
                exact rdr_text_yes g c t m h1 h2 w h he n hn _ rfl hk (by omega) (by omega) (by omega)
  · rw [Rd.stopped_text (r := ⟨b, err⟩) hz]
    exact rdr_text_err g _ m w h hz
end Go.Proofs.YtemeglofblnnmaaDoor
