/- A packet with one entry, or one member, less: the plain law. -/
import Derived.Test.YtjdgmnaemopfdaaDoorPkF
namespace Go.Proofs.YtjdgmnaemopfdaaDoor
open Go.RowKit Go.Lib
set_option linter.unusedVariables false

theorem pcheck_zero {p : Pkt} : p.check = 0 ↔ (¬ (4 < p.kind ∨ 64 ≤ p.frm ∨ 64 ≤ p.abt ∨ p.seq < 0 ∨ 1099511627776 < p.seq ∨ 64 < p.ms.length ∨ 256 < p.es.length ∨ p.ms.any Mem.wrong = true)) ∧ firstBad p.es = 0 ∧ p.bytes.length ≤ 16384 := by
  unfold Pkt.check
  split
  · rename_i h
    exact ⟨fun k => absurd k (by decide), fun k => absurd h k.1⟩
  · rename_i h
    split
    · rename_i h2
      exact ⟨fun k => absurd k h2, fun k => absurd k.2.1 h2⟩
    · rename_i h2
      split
      · rename_i h3
        exact ⟨fun k => absurd k (by decide), fun k => absurd k.2.2 (by omega)⟩
      · rename_i h3
        exact ⟨fun _ => ⟨h, by omega, by omega⟩, fun _ => rfl⟩
theorem firstBad_all {l : List Ent} : firstBad l = 0 ↔ ∀ e ∈ l, e.check = 0 := by
  induction l with
  | nil => simp [firstBad]
  | cons a t ih =>
    simp only [firstBad, List.mem_cons, forall_eq_or_imp]
    split
    · rename_i h; rw [ih]; simp [h]
    · rename_i h; simp [h]
/-- One entry less. -/
def Pkt.noE (p : Pkt) (l : List Ent) : Pkt := ⟨p.kind, p.frm, p.abt, p.seq, p.ms, l⟩
/-- One member less. -/
def Pkt.noM (p : Pkt) (l : List Mem) : Pkt := ⟨p.kind, p.frm, p.abt, p.seq, l, p.es⟩
theorem noE_len {p : Pkt} {l : List Ent} {x : Ent} (h : p.es = l ++ [x]) : (p.noE l).bytes.length + x.bytes.length = p.bytes.length := by
  unfold Pkt.noE Pkt.bytes
  rw [h]
  simp only [tList, List.map_append, List.map_cons, List.map_nil, List.length_cons, List.length_append, List.flatten_cons, List.flatten_nil, List.flatten_append, List.length_nil]
  omega
theorem noM_len {p : Pkt} {l : List Mem} {x : Mem} (h : p.ms = l ++ [x]) : (p.noM l).bytes.length + (tMem x).length = p.bytes.length := by
  unfold Pkt.noM Pkt.bytes
  rw [h]
  simp only [tList, List.map_append, List.map_cons, List.map_nil, List.length_cons, List.length_append, List.flatten_cons, List.flatten_nil, List.flatten_append, List.length_nil]
  omega
theorem noE_check {p : Pkt} {l : List Ent} {x : Ent} (h : p.es = l ++ [x]) (h0 : p.check = 0) : (p.noE l).check = 0 := by
  rw [pcheck_zero] at h0 ⊢
  obtain ⟨h1, h2, h3⟩ := h0
  have h4 := noE_len h
  rw [h] at h1 h2
  rw [firstBad_all] at h2 ⊢
  simp only [not_or, List.length_append, List.length_cons, List.length_nil] at h1 ⊢
  simp only [Pkt.noE] at h4 ⊢
  obtain ⟨a1, a2, a3, a4, a5, a6, a7, a8⟩ := h1
  exact ⟨⟨a1, a2, a3, a4, a5, a6, by omega, a8⟩, fun e he => h2 e (List.mem_append.2 (.inl he)), by omega⟩
theorem noM_check {p : Pkt} {l : List Mem} {x : Mem} (h : p.ms = l ++ [x]) (h0 : p.check = 0) : (p.noM l).check = 0 := by
  rw [pcheck_zero] at h0 ⊢
  obtain ⟨h1, h2, h3⟩ := h0
  have h4 := noM_len h
  rw [h] at h1
  simp only [not_or, List.length_append, List.length_cons, List.length_nil, List.any_append, Bool.or_eq_true] at h1 ⊢
  simp only [Pkt.noM] at h4 ⊢
  obtain ⟨a1, a2, a3, a4, a5, a6, a7, a8, a9⟩ := h1
  exact ⟨⟨a1, a2, a3, a4, a5, by omega, a7, a8⟩, h2, by omega⟩
theorem noE_fit {p : Pkt} {l : List Ent} {x : Ent} (h : p.es = l ++ [x]) (h0 : p.Fit) : (p.noE l).Fit :=
  ⟨h0.k0, h0.k1, h0.f0, h0.f1, h0.a0, h0.a1, h0.s0, h0.s1, h0.m, fun y hy => h0.e y (by rw [h]; exact List.mem_append.2 (.inl hy))⟩
theorem noM_fit {p : Pkt} {l : List Mem} {x : Mem} (h : p.ms = l ++ [x]) (h0 : p.Fit) : (p.noM l).Fit :=
  ⟨h0.k0, h0.k1, h0.f0, h0.f1, h0.a0, h0.a1, h0.s0, h0.s1, fun y hy => h0.m y (by rw [h]; exact List.mem_append.2 (.inl hy)), h0.e⟩
theorem ElAt.left {w : World} {S : Nat → Prop} {size : Nat} {A : Option Addr} {xs ys : List (List Value)} (h : ElAt w S size A (xs ++ ys)) : ElAt w S size A xs := fun hn => by
  obtain ⟨b, o, hA, hS, hlt, hc⟩ := h (by rw [List.length_append]; omega)
  exact ⟨b, o, hA, hS, hlt, fun k cs hk => hc k cs (by rw [List.getElem?_append_left (List.getElem?_eq_some_iff.1 hk).1]; exact hk)⟩
end Go.Proofs.YtjdgmnaemopfdaaDoor
