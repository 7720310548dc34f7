/- Package packet: small; what Read reads; a reader besides a box that is turned. -/
import Derived.Test.YtjdgmnaemopfdaaDoorPkF
namespace Go.Proofs.YtjdgmnaemopfdaaDoor
open Go.RowKit Go.Lib
set_option linter.unusedVariables false
set_option maxRecDepth 100000
attribute [local go_sem ↓] Go.wp_at_zero Go.wp_at_succ

/-- A number that is small; else the most. -/
def Rd.small (r : Rd) (most : Int) : Rd × Int := (r.int.1, if r.int.2 < 0 ∨ most < r.int.2 then most else r.int.2)
theorem Rd.small_ge (r : Rd) {most : Int} (h : 0 ≤ most) : 0 ≤ (r.small most).2 ∧ (r.small most).2 ≤ most := by
  simp only [Rd.small]
  split <;> omega
theorem pk_small (g : Nat) (r : Rd) (most : Int) (x : Rd × Int) (hx : r.small most = x) (w : World) (h : RdAt w g r) (he : Env w) (hg : Hi g) :
    Calls Tryd.prog 60 #[.pointer (some ⟨g, 0, none⟩), .int .i64 most] w fun e w' => e = .returned (.int .i64 x.2) ∧ RdAt w' g x.1 ∧ Only (At g) w w' := by
  subst hx
  have H := Lib.hid h
  have E := Lib.hid he
  have G := Lib.hid hg
  clear h he hg
  go_enter Tryd.func60, Tryd.ntmps60
  go_wp2_with fail
  refine (rdr_int g r _ H.out E.out G.out).mono ?_
  rintro e w1 ⟨rfl, hr, ho⟩
  have R1 := Lib.hid hr
  have O1 := Lib.hid ho
  clear hr ho
  go_wp2
  all_goals go_ret
  all_goals refine ⟨ret_num ?_, R1.out, O1.out⟩
  all_goals (simp only [Rd.small]; split)
  all_goals omega
theorem Src.setOff {w w' : World} {S : Nat → Prop} {A : Option Addr} {l : List UInt8} {b i : Nat} {t : TypeId} {cs : Array Value} {v : Value} (h : Src w S 1 A l.length (byteCells l)) (hb : Hld w b t cs) (hb' : Hld w' b t (cs.setIfInBounds i v)) (hi : ∀ n : Int, cs[i]? ≠ some (.int .u8 n)) (ho : Only (At b) w w') : Src w' S 1 A l.length (byteCells l) := by
  refine ⟨h.1, fun hn => ?_⟩
  obtain ⟨ad, hA, hS, hlt, hc⟩ := h.2 hn
  refine ⟨ad, hA, hS, Nat.lt_of_lt_of_le hlt ho.size, fun j u hu => ?_⟩
  by_cases hbk : ad.block = b
  · have h0 := hc j u hu
    obtain ⟨n, rfl⟩ : ∃ n : Int, u = .int .u8 n := by
      have := List.mem_of_getElem? hu
      simp only [byteCells, List.mem_map] at this
      obtain ⟨c, _, rfl⟩ := this
      exact ⟨_, rfl⟩
    have hblk := block_add ad j
    rw [hbk] at hblk
    generalize ad.add j = a at h0 hblk ⊢
    obtain ⟨bl, off, sp⟩ := a
    have hblk : bl = b := hblk
    subst hblk
    unfold World.cell? at h0 ⊢
    unfold Hld at hb hb'
    simp only [hb, hb'] at h0 ⊢
    split at h0
    · cases h0
    · rename_i hsp
      have hne : i ≠ off := fun e => hi n (e ▸ h0)
      rw [if_neg hsp, Array.getElem?_setIfInBounds, if_neg hne]
      exact h0
  · exact (ho.cell (by rw [block_add]; exact hlt) (by rw [block_add]; exact hbk)).trans (hc j u hu)
theorem RdAt.setOff {w w' : World} {g b i : Nat} {r : Rd} {t : TypeId} {cs : Array Value} {v : Value} (h : RdAt w g r) (hb : Hld w b t cs) (hb' : Hld w' b t (cs.setIfInBounds i v)) (hi : ∀ n : Int, cs[i]? ≠ some (.int .u8 n)) (hne : g ≠ b) (ho : Only (At b) w w') : RdAt w' g r := by
  obtain ⟨hs, A, c, h1, h2, h3, h4⟩ := h
  exact ⟨hs, A, c, h1.only ho hne, h2.setOff hb hb' hi ho, h3, h4⟩

theorem byte_le (r : Rd) (c : UInt8) : (r.byte c).b.length ≤ r.b.length := by
  unfold Rd.byte
  split
  · exact Nat.le_refl _
  · split
    · simp [Rd.stop]
    · split
      · simp [Rd.stop]
      · rename_i hb _; rw [hb]; simp
theorem byte_less {r : Rd} (hs : r.Sane) (hm : r.more = true) (c : UInt8) : (r.byte c).b.length < r.b.length := by
  have he : r.err = 0 := by
    by_cases h : r.err = 0
    · exact h
    · have := hs h
      unfold Rd.more at hm
      rw [this] at hm
      cases hm
  cases hb : r.b with
  | nil =>
    unfold Rd.more at hm
    rw [hb] at hm
    cases hm
  | cons x t =>
    unfold Rd.byte
    rw [if_neg (by simpa using he), hb]
    simp only
    split <;> simp [Rd.stop]
theorem int_le {r : Rd} (h : r.Sane) : r.int.1.b.length ≤ r.b.length := by
  by_cases he : r.int.1.err = 0
  · have := (Rd.int_back he).2.1
    conv => rhs; rw [this]
    simp
  · rw [Rd.int_sane h he]
    simp
theorem text_le {r : Rd} (h : r.Sane) (m : Int) : (r.text m).1.b.length ≤ r.b.length := by
  by_cases he : (r.text m).1.err = 0
  · have := (Rd.text_back he).2.1
    conv => rhs; rw [this]
    simp
  · rw [Rd.text_sane h m he]
    simp
/-- Members as they are read. -/
def Rd.mem (r : Rd) : Rd × Mem :=
  ((((((r.byte 108).small 255).1.small 255).1.small 1099511627776).1.byte 101), ⟨((r.byte 108).small 255).2, (((r.byte 108).small 255).1.small 255).2, ((((r.byte 108).small 255).1.small 255).1.small 1099511627776).2⟩)
theorem small_sane {r : Rd} (h : r.Sane) (m : Int) : (r.small m).1.Sane := Rd.int_sane h
theorem mem_sane {r : Rd} (h : r.Sane) : r.mem.1.Sane := Rd.byte_sane (small_sane (small_sane (small_sane (Rd.byte_sane h _) _) _) _) _
theorem mem_less {r : Rd} (h : r.Sane) (hm : r.more = true) : r.mem.1.b.length < r.b.length := by
  have h1 := byte_less h hm 108
  have s1 := Rd.byte_sane h 108
  have h2 := int_le s1
  have s2 := small_sane s1 255
  have h3 := int_le s2
  have s3 := small_sane s2 255
  have h4 := int_le s3
  have h5 := byte_le (((((r.byte 108).small 255).1.small 255).1.small 1099511627776).1) 101
  simp only [Rd.mem, Rd.small] at *
  omega
theorem reads_sane {r z : Rd} {y : Ent} (hr : Ent.Reads r y z) (h : r.Sane) : z.Sane := by
  obtain ⟨r1, r2, r3, r4, r5, r6, k, v, t, o, u, hs, _⟩ := hr
  have s1 := Rd.byte_sane h 108
  rw [hs.a1] at s1
  have s2 := Rd.text_sane s1 1024
  rw [hs.a2] at s2
  have s3 := Rd.int_sane s2
  rw [hs.a3] at s3
  have s4 := Rd.int_sane s3
  rw [hs.a4] at s4
  have s5 := Rd.text_sane s4 8192
  rw [hs.a5] at s5
  have s6 := Rd.int_sane s5
  rw [hs.a6] at s6
  have s7 := Rd.byte_sane s6 101
  rw [hs.a7] at s7
  exact s7
theorem reads_less {r z : Rd} {y : Ent} (hr : Ent.Reads r y z) (h : r.Sane) (hm : r.more = true) : z.b.length < r.b.length := by
  obtain ⟨r1, r2, r3, r4, r5, r6, k, v, t, o, u, hs, _⟩ := hr
  have h1 := byte_less h hm 108
  have s1 := Rd.byte_sane h 108
  rw [hs.a1] at s1 h1
  have h2 := text_le s1 1024
  have s2 := Rd.text_sane s1 1024
  rw [hs.a2] at s2 h2
  have h3 := int_le s2
  have s3 := Rd.int_sane s2
  rw [hs.a3] at s3 h3
  have h4 := int_le s3
  have s4 := Rd.int_sane s3
  rw [hs.a4] at s4 h4
  have h5 := text_le s4 8192
  have s5 := Rd.text_sane s4 8192
  rw [hs.a5] at s5 h5
  have h6 := int_le s5
  have s6 := Rd.int_sane s5
  rw [hs.a6] at s6 h6
  have h7 := byte_le r6 101
  rw [hs.a7] at h7
  simp only at *
  omega
/-- A list of members, of entries, as it is read. -/
inductive Mems : Rd → List Mem → Rd → Prop
  | stop {r : Rd} : r.more = false → Mems r [] r
  | step {r : Rd} {ms : List Mem} {z : Rd} : r.more = true → Mems r.mem.1 ms z → Mems r (r.mem.2 :: ms) z
inductive Ents : Rd → List Ent → Rd → Prop
  | stop {r : Rd} : r.more = false → Ents r [] r
  | step {r z : Rd} {y : Ent} {es : List Ent} {q : Rd} : r.more = true → Ent.Reads r y z → Ents z es q → Ents r (y :: es) q
theorem mems_some (n : Nat) : ∀ r : Rd, r.b.length ≤ n → r.Sane → ∃ ms z, Mems r ms z ∧ z.Sane ∧ ms.length ≤ n := by
  induction n with
  | zero =>
    intro r hn hs
    have hb : r.b = [] := List.eq_nil_of_length_eq_zero (by omega)
    exact ⟨[], r, .stop (by unfold Rd.more; rw [hb]), hs, by simp⟩
  | succ n ih =>
    intro r hn hs
    cases hm : r.more
    · exact ⟨[], r, .stop hm, hs, by simp⟩
    · have hl := mem_less hs hm
      obtain ⟨ms, z, h1, h2, h3⟩ := ih r.mem.1 (by omega) (mem_sane hs)
      exact ⟨_, z, .step hm h1, h2, by simp; omega⟩
theorem ents_some (n : Nat) : ∀ r : Rd, r.b.length ≤ n → r.Sane → ∃ es z, Ents r es z ∧ z.Sane ∧ es.length ≤ n := by
  induction n with
  | zero =>
    intro r hn hs
    have hb : r.b = [] := List.eq_nil_of_length_eq_zero (by omega)
    exact ⟨[], r, .stop (by unfold Rd.more; rw [hb]), hs, by simp⟩
  | succ n ih =>
    intro r hn hs
    cases hm : r.more
    · exact ⟨[], r, .stop hm, hs, by simp⟩
    · obtain ⟨y, z, hr⟩ := reads_some r
      have hl := reads_less hr hs hm
      obtain ⟨ms, q, h1, h2, h3⟩ := ih z (by omega) (reads_sane hr hs)
      exact ⟨_, q, .step hm hr h1, h2, by simp; omega⟩
end Go.Proofs.YtjdgmnaemopfdaaDoor
