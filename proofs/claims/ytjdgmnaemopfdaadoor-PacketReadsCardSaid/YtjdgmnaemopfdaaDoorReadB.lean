/- Package entry: what Read reads. -/
import Derived.Test.YtjdgmnaemopfdaaDoorRead
namespace Go.Proofs.YtjdgmnaemopfdaaDoor
open Go.RowKit Go.Lib
set_option linter.unusedVariables false

theorem text_over (s r : List UInt8) (most : Int) (hs : s.length ≤ 1000000000) (hm : most < (s.length : Int)) : Rd.text ⟨tText s ++ r, 0⟩ most = (Rd.stop 5, []) := by
  unfold Rd.text tText
  have hp := itoa_pos (s.length : Int)
  have ht := Rd.till_laid (s.length : Int) 58 (.inr rfl) (s ++ r) 10 (by omega) (by omega) (itoa_len10 _ hs)
  have e : itoa (s.length : Int) ++ 58 :: s ++ r = itoa (s.length : Int) ++ 58 :: (s ++ r) := by simp
  simp only [e, ne_eq, not_true_eq_false, if_false]
  have h45 : ∀ c t, itoa (s.length : Int) = c :: t → ¬ (c.toNat < 48 ∨ 57 < c.toNat) := by
    intro c t he
    unfold itoa at he
    rw [if_neg (by omega)] at he
    have := dec_digits (s.length : Int).toNat c (by rw [he]; simp)
    omega
  rw [ht]
  cases hi : itoa (s.length : Int) with
  | nil => rw [hi] at hp; simp at hp
  | cons c t =>
    simp only [List.cons_append]
    rw [if_neg (h45 c t hi)]
    simp only [Bool.true_eq_false, if_false]
    unfold Rd.rest
    rw [if_neg (by omega), if_pos (by omega)]

def Ent.bytes (e : Ent) : List UInt8 := tEnt e.key.data.toList e.time e.org e.val.data.toList e.til
theorem bytes_app (e : Ent) (z : List UInt8) : e.bytes ++ z = 108 :: (tText e.key.data.toList ++ (tInt e.time ++ (tInt e.org ++ (tText e.val.data.toList ++ (tInt e.til ++ 101 :: z))))) := by
  simp [Ent.bytes, tEnt, tList]

/-- What Read reads: the entry y, the reader left at z. -/
def Ent.Reads (r : Rd) (y : Ent) (z : Rd) : Prop :=
  ∃ r1 r2 r3 r4 r5 r6 k v t o u, Ent.Steps r r1 r2 r3 r4 r5 r6 z k v t o u ∧
    ((z.err = 0 ∧ 0 ≤ o ∧ o ≤ 65535 ∧ (Ent.mk k t o v u).check = 0 ∧ y = ⟨k, t, o, v, u⟩) ∨ (¬ (z.err = 0 ∧ 0 ≤ o ∧ o ≤ 65535 ∧ (Ent.mk k t o v u).check = 0) ∧ y = Ent.nil))
theorem reads_some (r : Rd) : ∃ y z, Ent.Reads r y z := by
  obtain ⟨r1, r2, r3, r4, r5, r6, r7, k, v, t, o, u, h⟩ := Ent.steps r
  by_cases hg : r7.err = 0 ∧ 0 ≤ o ∧ o ≤ 65535 ∧ (Ent.mk k t o v u).check = 0
  · exact ⟨⟨k, t, o, v, u⟩, r7, r1, r2, r3, r4, r5, r6, k, v, t, o, u, h, .inl ⟨hg.1, hg.2.1, hg.2.2.1, hg.2.2.2, rfl⟩⟩
  · exact ⟨Ent.nil, r7, r1, r2, r3, r4, r5, r6, k, v, t, o, u, h, .inr ⟨hg, rfl⟩⟩
theorem check_org (k v : ByteArray) (t o q u : Int) : (Ent.mk k t q v u).check = (Ent.mk k t o v u).check := rfl
theorem entry_read (g : Nat) (r : Rd) (y : Ent) (z : Rd) (hr : Ent.Reads r y z) (w : World) (h : RdAt w g r) (he : Env w) (hg : Hi g) :
    Calls Tryd.prog 61 #[.pointer (some ⟨g, 0, none⟩)] w fun e w' =>
      e = .returned (.agg #[.string y.key, .int .i64 y.time, .int .u16 y.org, .string y.val, .int .i64 y.til]) ∧ RdAt w' g z ∧ Only (At g) w w' := by
  obtain ⟨r1, r2, r3, r4, r5, r6, k, v, t, o, u, hs, hy⟩ := hr
  have hk : k.size ≤ 1024 := by
    have h1 := text_long r1 1024
    rw [hs.a2] at h1
    have h1 : (k.size : Int) ≤ max 1024 0 := h1
    omega
  have hv : v.size ≤ 8192 := by
    have h1 := text_long r4 8192
    rw [hs.a5] at h1
    have h1 : (v.size : Int) ≤ max 8192 0 := h1
    omega
  refine (read_walk g r r1 r2 r3 r4 r5 r6 z k v t o u _ _ hs rfl rfl (by omega) (by omega) w h he hg _ _ _ _ rfl rfl rfl rfl).mono ?_
  rintro e w' ⟨he, h2⟩
  refine ⟨?_, h2⟩
  rw [he]
  rw [check_org k v t o]
  rcases hy with ⟨g1, g2, g3, g4, rfl⟩ | ⟨hn, rfl⟩
  · have e1 : IntKind.u16.wrap o = o := by
      simp [IntKind.wrap, IntKind.signed, IntKind.bits]; omega
    rw [e1, g1, g4]
    have b2 : decide (o < 0) = false := by simpa using g2
    have b3 : decide (65535 < o) = false := by simpa using g3
    rw [b2, b3]
    rfl
  · have : ((z.err != 0) || decide (o < 0) || decide (65535 < o) || ((Ent.mk k t o v u).check != 0)) = true := by
      by_cases a1 : z.err = 0
      · by_cases a2 : 0 ≤ o
        · by_cases a3 : o ≤ 65535
          · have a4 : (Ent.mk k t o v u).check ≠ 0 := fun h => hn ⟨a1, a2, a3, h⟩
            simp [a4]
          · simp [show 65535 < o by omega]
        · simp [show o < 0 by omega]
      · simp [a1]
    rw [if_pos this]
    rfl

theorem check_zero {e : Ent} : e.check = 0 ↔ 0 < e.key.size ∧ e.key.size ≤ 1024 ∧ e.val.size ≤ 8192 ∧ 0 ≤ e.time ∧ e.time ≤ e.til ∧ e.til ≤ 1099511627776 := by
  unfold Ent.check
  split
  · simp; omega
  · split
    · simp; omega
    · simp; omega
theorem nil_check : Ent.nil.check ≠ 0 := by decide
theorem size_len (a : ByteArray) : a.data.toList.length = a.size := rfl

/-- What is laid is read. -/
theorem reads_laid {e y : Ent} {z : Rd} (hr : Ent.Reads ⟨e.bytes, 0⟩ y z) (hk : e.key.size ≤ 1000000000) (hv : e.val.size ≤ 1000000000)
    (t0 : -9223372036854775808 ≤ e.time) (t1 : e.time ≤ 9223372036854775807) (o0 : 0 ≤ e.org) (o1 : e.org ≤ 65535) (u0 : -9223372036854775808 ≤ e.til) (u1 : e.til ≤ 9223372036854775807) :
    (e.check = 0 → y = e ∧ z = ⟨[], 0⟩) ∧ (e.check ≠ 0 → y = Ent.nil) := by
  obtain ⟨r1, r2, r3, r4, r5, r6, k, v, t, o, u, hs, hy⟩ := hr
  have hb := bytes_app e []
  rw [List.append_nil] at hb
  have a1 := hs.a1
  rw [hb, Rd.byte_laid] at a1
  have a2 := hs.a2
  rw [← a1] at a2
  by_cases hk2 : e.key.size ≤ 1024
  · rw [Rd.text_laid _ _ _ (by rw [size_len]; exact hk) (by rw [size_len]; omega)] at a2
    obtain ⟨b1, b2⟩ := Prod.mk.inj a2
    have b2 : e.key = k := ba_inj b2
    have a3 := hs.a3
    rw [← b1, Rd.int_laid _ _ t0 t1] at a3
    obtain ⟨c1, c2⟩ := Prod.mk.inj a3
    have a4 := hs.a4
    rw [← c1, Rd.int_laid _ _ (by omega) (by omega)] at a4
    obtain ⟨d1, d2⟩ := Prod.mk.inj a4
    have a5 := hs.a5
    rw [← d1] at a5
    by_cases hv2 : e.val.size ≤ 8192
    · rw [Rd.text_laid _ _ _ (by rw [size_len]; exact hv) (by rw [size_len]; omega)] at a5
      obtain ⟨e1, e2⟩ := Prod.mk.inj a5
      have e2 : e.val = v := ba_inj e2
      have a6 := hs.a6
      rw [← e1, Rd.int_laid _ _ u0 u1] at a6
      obtain ⟨f1, f2⟩ := Prod.mk.inj a6
      have a7 := hs.a7
      rw [← f1, Rd.byte_laid] at a7
      have he : (Ent.mk k t o v u) = e := by rw [← b2, ← c2, ← d2, ← e2, ← f2]
      rw [he] at hy
      constructor
      · intro hc
        rcases hy with ⟨_, _, _, _, rfl⟩ | ⟨hn, _⟩
        · exact ⟨rfl, a7.symm⟩
        · exact absurd ⟨by rw [← a7], by omega, by omega, hc⟩ hn
      · intro hc
        rcases hy with ⟨_, _, _, h, _⟩ | ⟨_, rfl⟩
        · exact absurd h hc
        · rfl
    · rw [text_over _ _ _ (by rw [size_len]; exact hv) (by rw [size_len]; omega)] at a5
      have hc : e.check ≠ 0 := fun h => hv2 (check_zero.1 h).2.2.1
      refine ⟨fun h => absurd h hc, fun _ => ?_⟩
      obtain ⟨e1, _⟩ := Prod.mk.inj a5
      have a6 := hs.a6
      rw [← e1, Rd.stopped_int (by decide)] at a6
      obtain ⟨f1, _⟩ := Prod.mk.inj a6
      have a7 := hs.a7
      rw [← f1, Rd.stopped_byte (by decide)] at a7
      rcases hy with ⟨h, _⟩ | ⟨_, rfl⟩
      · rw [← a7] at h; exact absurd h (by decide)
      · rfl
  · rw [text_over _ _ _ (by rw [size_len]; exact hk) (by rw [size_len]; omega)] at a2
    have hc : e.check ≠ 0 := fun h => hk2 (check_zero.1 h).2.1
    refine ⟨fun h => absurd h hc, fun _ => ?_⟩
    obtain ⟨b1, _⟩ := Prod.mk.inj a2
    have a3 := hs.a3
    rw [← b1, Rd.stopped_int (by decide)] at a3
    obtain ⟨c1, _⟩ := Prod.mk.inj a3
    have a4 := hs.a4
    rw [← c1, Rd.stopped_int (by decide)] at a4
    obtain ⟨d1, _⟩ := Prod.mk.inj a4
    have a5 := hs.a5
    rw [← d1, Rd.stopped_text (by decide)] at a5
    obtain ⟨e1, _⟩ := Prod.mk.inj a5
    have a6 := hs.a6
    rw [← e1, Rd.stopped_int (by decide)] at a6
    obtain ⟨f1, _⟩ := Prod.mk.inj a6
    have a7 := hs.a7
    rw [← f1, Rd.stopped_byte (by decide)] at a7
    rcases hy with ⟨h, _⟩ | ⟨_, rfl⟩
    · rw [← a7] at h; exact absurd h (by decide)
    · rfl

/-- What is read was laid. -/
theorem reads_back {l : List UInt8} {y : Ent} {z : Rd} (hr : Ent.Reads ⟨l, 0⟩ y z) :
    (y.key.size = 0 → y = Ent.nil) ∧ (y.key.size ≠ 0 → z.err = 0 ∧ y.check = 0 ∧ l = y.bytes ++ z.b ∧ 0 ≤ y.org ∧ y.org ≤ 65535) := by
  obtain ⟨r1, r2, r3, r4, r5, r6, k, v, t, o, u, hs, hy⟩ := hr
  rcases hy with ⟨g1, g2, g3, g4, rfl⟩ | ⟨hn, rfl⟩
  · refine ⟨fun h => ?_, fun _ => ⟨g1, g4, ?_, g2, g3⟩⟩
    · have := (check_zero.1 g4).1
      simp only at this h
      omega
    · have x7 := Rd.byte_back (r := r6) (c := 101) (by rw [hs.a7]; exact g1)
      rw [hs.a7] at x7
      have x6 := Rd.int_back (r := r5) (by rw [hs.a6]; exact x7.1)
      rw [hs.a6] at x6
      have x5 := Rd.text_back (r := r4) (most := 8192) (by rw [hs.a5]; exact x6.1)
      rw [hs.a5] at x5
      have x4 := Rd.int_back (r := r3) (by rw [hs.a4]; exact x5.1)
      rw [hs.a4] at x4
      have x3 := Rd.int_back (r := r2) (by rw [hs.a3]; exact x4.1)
      rw [hs.a3] at x3
      have x2 := Rd.text_back (r := r1) (most := 1024) (by rw [hs.a2]; exact x3.1)
      rw [hs.a2] at x2
      have x1 := Rd.byte_back (r := ⟨l, 0⟩) (c := 108) (by rw [hs.a1]; exact x2.1)
      rw [hs.a1] at x1
      rw [bytes_app]
      have y1 : l = 108 :: r1.b := x1.2
      rw [y1, x2.2.1, x3.2.1, x4.2.1, x5.2.1, x6.2.1, x7.2]
  · refine ⟨fun _ => rfl, fun h => absurd (show Ent.nil.key.size = 0 from rfl) h⟩
end Go.Proofs.YtjdgmnaemopfdaaDoor
