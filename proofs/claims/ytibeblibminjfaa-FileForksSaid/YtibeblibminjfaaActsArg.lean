/- An argument that is a list of calls, opened; a text of bytes, opened. -/
import Derived.Test.YtibeblibminjfaaActs
import Derived.ProofKit
import Derived.OpenShut
import Derived.ShutString
import Derived.ChangeOld
import Derived.Deep.Slices
namespace Go.Proofs.Ytibeblibminjfaa
open Go.ChangeShapes Go.WideShapes Go.ChangeAt Go.RowKit Go.Deep
set_option linter.unusedVariables false

section
variable {H : Type} {enc : TypeId × Value → H} {w : World} {base : Nat} {spare : Nat → Bool} {held : Bool}

/-- A text of bytes out of its reading. -/
theorem bytes_of_trod {fuel : Nat} {cs : List Value} {x : DataW H × List MemPlace} (h : DataW.trod enc Try.prog w base spare held fuel 22 cs = some x) :
    ∃ A n c z, cs = [.slice A n c] ∧ Src w (fun j => j < w.heap.size) 1 A n (u8s z) ∧ z.length = n ∧ (A = none → n = 0 ∧ c = 0) ∧ n ≤ c ∧ c ≤ 9223372036854775807 ∧ ∀ b ∈ z, 0 ≤ b ∧ b ≤ 255 := by
  rcases open_ints Try.underlying22 Try.underlying5 (by kernel_rfl) h with ⟨hcs, _⟩ | ⟨x, len, c, zs, hcs, _, hl, hm, hz, _, hc, hwz⟩
  · exact ⟨none, 0, 0, [], hcs, Src.none_ _ _ _ _, rfl, fun _ => ⟨rfl, rfl⟩, Nat.le_refl _, by omega, by simp⟩
  · have hzl : len ≤ zs.length := by rw [hz]; split <;> omega
    have hlen : (zs.take len).length = len := by rw [List.length_take]; omega
    refine ⟨some x, len, c, zs.take len, hcs, ⟨by rw [u8s_length, hlen, Nat.mul_one], fun hn => ?_⟩, hlen, (fun h => by cases h), hl, by simpa [maxLen] using hm, fun b hb => ?_⟩
    · have h0 := hc 0 (by omega)
      have hlt := World.block_lt_of_cell? w _ h0
      rw [block_add] at hlt
      refine ⟨x, rfl, hlt, hlt, fun j u hu => ?_⟩
      have hj2 : j < len := by
        have := (List.getElem?_eq_some_iff.1 hu).1
        rwa [u8s_length, hlen] at this
      have hj : j < zs.length := by omega
      rw [hc j hj, ← hu, u8s, List.getElem?_map]
      simp [List.getD, hj2, hj]
    · have := hwz b (List.mem_of_mem_take hb)
      simpa [Lit.wf, IntKind.min, IntKind.max, IntKind.signed, IntKind.bits] using this

theorem acts_of_trod {fuel : Nat} {cs : List Value} {x : DataW H × List MemPlace} (h : DataW.trod enc Try.prog w base spare held fuel 42 cs = some x) :
    ∃ A n c xs, cs = [.slice A n c] ∧ ActsAt w (fun j => j < w.heap.size) A xs ∧ xs.length = n ∧ n ≤ 9223372036854775807 := by
  rcases open_slice Try.underlying42 h with ⟨hcs, _⟩ | ⟨a, len, cap, m, n, D, Pl, hcs, hb, hl, hm, hmm, hx, hi⟩
  · exact ⟨none, 0, 0, [], hcs, fun h => absurd h (by simp), rfl, by omega⟩
  · have hml : len ≤ m := by rw [hmm]; split <;> omega
    have hC : Try.prog.cellsOf 45 = 4 := by kernel_rfl
    rw [hC] at hi
    rcases Nat.eq_zero_or_pos len with h0 | h0
    · subst h0
      exact ⟨some a, 0, cap, [], hcs, fun h => absurd h (by simp), rfl, by omega⟩
    · -- the address is a plain one
      obtain ⟨b, o, spot⟩ := a
      have hspot : spot = none := by
        obtain ⟨cs', hc, _⟩ := hi 0 (by omega)
        obtain ⟨_, hcl, hat⟩ := World.cells?_some hc
        have h1 := hat 0 (by omega)
        rw [List.getElem?_eq_getElem (by omega)] at h1
        simpa [Addr.add] using World.cell?_spot h1
      subst hspot
      have hex : ∀ i, i < len → ∃ y : Ac, ActAt w (fun j => j < w.heap.size) b (o + i * 4) y := by
        intro i hil
        obtain ⟨cs', hc, ht⟩ := hi i (by omega)
        obtain ⟨_, hcl, hat⟩ := World.cells?_some hc
        obtain ⟨ys, n', _, hy, hlen, hyl, hf⟩ := DataW.trod_struct Try.underlying45 ht
        have hyl4 : ys.length = 4 := hyl
        match cs', hcl, ys, hyl4 with
        | [u0, u1, u2, u3], _, [y0, y1, y2, y3], _ =>
          have f0 := hf 0 _ rfl
          have f1 := hf 1 _ rfl
          have f2 := hf 2 _ rfl
          have f3 := hf 3 _ rfl
          have k0 : Try.prog.cellsOf 5 = 1 := by kernel_rfl
          have k1 : Try.prog.cellsOf 22 = 1 := by kernel_rfl
          have k2 : Try.prog.cellsOf 3 = 1 := by kernel_rfl
          have k3 : Try.prog.cellsOf 4 = 1 := by kernel_rfl
          simp [k0, k1, k2, k3] at f0 f1 f2 f3
          obtain ⟨kd, e0, _, w0⟩ := DataW.trod_int Try.underlying5 f0
          obtain ⟨B, bl, bc, z, e1, hs, hzl, hbare, hbl, hbc, _⟩ := bytes_of_trod f1
          obtain ⟨nn, e2, _, w2⟩ := DataW.trod_int Try.underlying3 f2
          obtain ⟨dn, e3, _⟩ := DataW.trod_bool Try.underlying4 f3
          simp at e0 e1 e2 e3
          subst e0 e1 e2 e3
          have hkd : 0 ≤ kd ∧ kd ≤ 255 := by simpa [Lit.wf, IntKind.min, IntKind.max, IntKind.signed, IntKind.bits] using w0
          have hnn : -9223372036854775808 ≤ nn ∧ nn ≤ 9223372036854775807 := by simpa [Lit.wf, IntKind.min, IntKind.max, IntKind.signed, IntKind.bits] using w2
          obtain ⟨kn, rfl⟩ := Int.eq_ofNat_of_zero_le hkd.1
          have c0 := hat 0 (by omega)
          have c1 := hat 1 (by omega)
          have c2 := hat 2 (by omega)
          have c3 := hat 3 (by omega)
          simp only [add_plain'] at c0 c1 c2 c3
          have c0' : w.cell? ⟨b, o + i * 4, none⟩ = some (.int .u8 (kn : Int)) := by simpa using c0
          have hlt := World.block_lt_of_cell? w _ c0'
          exact ⟨{ kind := kn, A := B, len := bl, cap := bc, z := z, n := nn, done := dn }, c0', by simpa using c1, by simpa using c2, by simpa using c3, hlt, hlt, hs, hbare, hbl, hbc, by show kn ≤ 255; omega, hnn.1, hnn.2, hzl⟩
      haveI : Inhabited Ac := ⟨⟨0, none, 0, 0, [], 0, false⟩⟩
      obtain ⟨X, hX⟩ := choose_lt (α := Ac) (p := fun i y => ActAt w (fun j => j < w.heap.size) b (o + i * 4) y) hex
      refine ⟨some ⟨b, o, none⟩, len, cap, (List.range len).map X, hcs, fun _ => ⟨b, o, rfl, fun k y hk => ?_⟩, by simp, by simp only [maxLen] at hm; omega⟩
      have hkl : k < len := by
        have := (List.getElem?_eq_some_iff.1 hk).1
        simpa using this
      simp [hkl] at hk
      subst hk
      exact hX k hkl
end
end Go.Proofs.Ytibeblibminjfaa
