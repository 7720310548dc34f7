/- The plain law of packets: what is laid is read as it was. -/
import Derived.Test.YtjdgmnaemopfdaaDoorPkA
import Derived.Test.YtjdgmnaemopfdaaDoorMoreP
namespace Go.Proofs.YtjdgmnaemopfdaaDoor
open Go.RowKit Go.Lib
set_option linter.unusedVariables false

theorem small_laid {n most : Int} (h0 : 0 ≤ n) (h1 : n ≤ most) (h2 : n ≤ 9223372036854775807) (r : List UInt8) : Rd.small ⟨tInt n ++ r, 0⟩ most = (⟨r, 0⟩, n) := by
  unfold Rd.small
  rw [Rd.int_laid n r (by omega) h2]
  simp only
  rw [if_neg (by omega)]
theorem wrong_no {m : Mem} (h : m.wrong = false) (hm : m.Ok) : m.node ≤ 63 ∧ m.st ≤ 255 ∧ 0 ≤ m.inc ∧ m.inc ≤ 1073741824 := by
  have := hm.s1
  unfold Mem.wrong at h
  simp at h
  omega
theorem tMem_app (m : Mem) (r : List UInt8) : tMem m ++ r = 108 :: (tInt m.node ++ (tInt m.st ++ (tInt m.inc ++ 101 :: r))) := by simp [tMem, tList]
theorem mem_laid {m : Mem} (h : m.wrong = false) (hm : m.Ok) (r : List UInt8) : Rd.mem ⟨tMem m ++ r, 0⟩ = (⟨r, 0⟩, m) := by
  obtain ⟨a1, a2, a3, a4⟩ := wrong_no h hm
  rw [tMem_app]
  unfold Rd.mem
  simp only [Rd.byte_laid, small_laid (n := m.node) (most := 255) hm.n0 (by omega) (by omega), small_laid (n := m.st) (most := 255) hm.s0 (by omega) (by omega), small_laid (n := m.inc) (most := 1099511627776) a3 (by omega) (by omega)]
theorem more_l (r : List UInt8) : Rd.more ⟨108 :: r, 0⟩ = true := by simp [Rd.more]
theorem more_e (r : List UInt8) : Rd.more ⟨101 :: r, 0⟩ = false := by simp [Rd.more]
theorem mems_laid (ms : List Mem) : ∀ (r : List UInt8) {x : Rd} {xs : List Mem} {z : Rd}, Mems x xs z → x = ⟨(ms.map tMem).flatten ++ 101 :: r, 0⟩ → (∀ m ∈ ms, m.wrong = false ∧ m.Ok) → xs = ms ∧ z = ⟨101 :: r, 0⟩ := by
  induction ms with
  | nil =>
    intro r x xs z h hx _
    simp only [List.map_nil, List.flatten_nil, List.nil_append] at hx
    subst hx
    cases h with
    | stop hm => exact ⟨rfl, rfl⟩
    | step hm _ => rw [more_e] at hm; cases hm
  | cons m ms ih =>
    intro r x xs z h hx hok
    have hm := hok m (by simp)
    simp only [List.map_cons, List.flatten_cons, List.append_assoc] at hx
    cases h with
    | stop hs =>
      rw [hx, tMem_app, more_l] at hs
      cases hs
    | step hs ht =>
      rw [hx, mem_laid hm.1 hm.2] at ht ⊢
      obtain ⟨e1, e2⟩ := ih r ht rfl (fun y hy => hok y (by simp [hy]))
      exact ⟨by rw [e1], e2⟩
theorem reads_on {e y : Ent} {z : Rd} (r : List UInt8) (hr : Ent.Reads ⟨e.bytes ++ r, 0⟩ y z) (hc : e.check = 0) (ho : e.Ok) : y = e ∧ z = ⟨r, 0⟩ := by
  obtain ⟨r1, r2, r3, r4, r5, r6, k, v, t, o, u, hs, hy⟩ := hr
  obtain ⟨c1, c2, c3, -⟩ := check_zero.1 hc
  have a1 := hs.a1
  rw [bytes_app, Rd.byte_laid] at a1
  have a2 := hs.a2
  rw [← a1, Rd.text_laid _ _ _ (by rw [size_len]; omega) (by rw [size_len]; omega)] at a2
  obtain ⟨b1, b2⟩ := Prod.mk.inj a2
  have b2 : e.key = k := ba_inj b2
  have a3 := hs.a3
  rw [← b1, Rd.int_laid _ _ ho.t0 ho.t1] at a3
  obtain ⟨c1, c2⟩ := Prod.mk.inj a3
  have a4 := hs.a4
  rw [← c1, Rd.int_laid _ _ (by have := ho.o0; omega) (by have := ho.o1; omega)] at a4
  obtain ⟨d1, d2⟩ := Prod.mk.inj a4
  have a5 := hs.a5
  rw [← d1, Rd.text_laid _ _ _ (by rw [size_len]; omega) (by rw [size_len]; omega)] at a5
  obtain ⟨e1, e2⟩ := Prod.mk.inj a5
  have e2 : e.val = v := ba_inj e2
  have a6 := hs.a6
  rw [← e1, Rd.int_laid _ _ ho.u0 ho.u1] at a6
  obtain ⟨f1, f2⟩ := Prod.mk.inj a6
  have a7 := hs.a7
  rw [← f1, Rd.byte_laid] at a7
  have he : (Ent.mk k t o v u) = e := by rw [← b2, ← c2, ← d2, ← e2, ← f2]
  rw [he] at hy
  rcases hy with ⟨_, _, _, _, rfl⟩ | ⟨hn, _⟩
  · exact ⟨rfl, a7.symm⟩
  · exact absurd ⟨by rw [← a7], by have := ho.o0; omega, by have := ho.o1; omega, hc⟩ hn
theorem ents_laid (es : List Ent) : ∀ (r : List UInt8) {x : Rd} {xs : List Ent} {z : Rd}, Ents x xs z → x = ⟨(es.map Ent.bytes).flatten ++ 101 :: r, 0⟩ → (∀ e ∈ es, e.check = 0 ∧ e.Ok) → xs = es ∧ z = ⟨101 :: r, 0⟩ := by
  induction es with
  | nil =>
    intro r x xs z h hx _
    simp only [List.map_nil, List.flatten_nil, List.nil_append] at hx
    subst hx
    cases h with
    | stop hm => exact ⟨rfl, rfl⟩
    | step hm _ _ => rw [more_e] at hm; cases hm
  | cons m ms ih =>
    intro r x xs z h hx hok
    have hm := hok m (by simp)
    simp only [List.map_cons, List.flatten_cons, List.append_assoc] at hx
    cases h with
    | stop hs =>
      rw [hx, bytes_app, more_l] at hs
      cases hs
    | step hs hr ht =>
      rw [hx] at hr
      obtain ⟨g1, g2⟩ := reads_on _ hr hm.1 hm.2
      rw [g2] at ht
      obtain ⟨e1, e2⟩ := ih r ht rfl (fun y hy => hok y (by simp [hy]))
      exact ⟨by rw [e1, g1], e2⟩
theorem pbytes_app (p : Pkt) : p.bytes = 108 :: (tInt p.kind ++ (tInt p.frm ++ (tInt p.abt ++ (tInt p.seq ++ 108 :: ((p.ms.map tMem).flatten ++ 101 :: (108 :: ((p.es.map Ent.bytes).flatten ++ 101 :: [101]))))))) := by
  simp [Pkt.bytes, tList]
theorem parse_laid {p q : Pkt} (hf : q.Fit) (h0 : q.check = 0) (hp : p.Parse q.bytes) : p = q := by
  obtain ⟨z, z1, z2, ⟨r1, r2, r3, r4, r5, b0, b1, b2, b3, b4, b5⟩, hms, hes⟩ := hp
  obtain ⟨g1, g2, -⟩ := pcheck_zero.1 h0
  simp only [not_or] at g1
  obtain ⟨a1, a2, a3, a4, a5, a6, a7, a8⟩ := g1
  rw [pbytes_app, Rd.byte_laid] at b0
  rw [← b0, small_laid hf.k0 (by omega) (by omega)] at b1
  obtain ⟨c1, d1⟩ := Prod.mk.inj b1
  rw [← c1, small_laid hf.f0 (by omega) (by omega)] at b2
  obtain ⟨c2, d2⟩ := Prod.mk.inj b2
  rw [← c2, small_laid hf.a0 (by omega) (by omega)] at b3
  obtain ⟨c3, d3⟩ := Prod.mk.inj b3
  rw [← c3, small_laid (by omega) (by omega) (by omega)] at b4
  obtain ⟨c4, d4⟩ := Prod.mk.inj b4
  rw [← c4, Rd.byte_laid] at b5
  obtain ⟨e1, e2⟩ := mems_laid q.ms _ hms b5.symm (fun m hm => ⟨by
    have := a8
    simp only [Bool.not_eq_true, List.any_eq_false] at this
    simpa using this m hm, hf.m m hm⟩)
  rw [e2, Rd.byte_laid, Rd.byte_laid] at hes
  obtain ⟨e3, -⟩ := ents_laid q.es _ hes rfl (fun e he => ⟨firstBad_all.1 g2 e he, (hf.e e he).1⟩)
  cases p
  cases q
  simp only at d1 d2 d3 d4 e1 e3
  subst d1 d2 d3 d4 e1 e3
  rfl
/-- Bytes of a packet that may be. -/
def Pkt.Of (l : List UInt8) (q : Pkt) : Prop := q.Fit ∧ q.check = 0 ∧ q.bytes = l
theorem Pkt.Of.one {l : List UInt8} {p q : Pkt} (h : q.Of l) (hp : p.Parse l) : p = q := by
  obtain ⟨h1, h2, rfl⟩ := h
  exact parse_laid h1 h2 hp
theorem parse_fit {l : List UInt8} {p : Pkt} (hp : p.Parse l) : p.Fit := by
  obtain ⟨z, z1, z2, hh, hms, hes⟩ := hp
  obtain ⟨k1, k2, k3, k4, k5⟩ := head_nums hh
  obtain ⟨-, hs⟩ := head_len hh
  obtain ⟨-, hz, hm⟩ := mems_long hms hs
  exact ⟨k1.1, k1.2, k2.1, by omega, k3.1, by omega, by omega, by omega, fun m h => by obtain ⟨h1, h2, h3⟩ := hm m h; exact ⟨h1.1, by omega, h2.1, h2.2, by omega, by omega⟩, ents_fit hes⟩
end Go.Proofs.YtjdgmnaemopfdaaDoor
