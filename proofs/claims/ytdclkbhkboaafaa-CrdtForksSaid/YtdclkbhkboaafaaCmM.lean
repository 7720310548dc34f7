/- Package crdt: contracts for the laws' walks. -/
import Derived.Test.YtdclkbhkboaafaaCmL
namespace Go.Proofs.Ytdclkbhkboaafaa
open Go.RowKit Go.Lib Go.Sort
set_option linter.unusedVariables false
set_option linter.unusedSimpArgs false
set_option maxRecDepth 100000
attribute [local go_sem ↓] Go.wp_at_zero Go.wp_at_succ

/-- Texts that may be. -/
def Fit (l : List Ent) : Prop := ∀ e ∈ l, e.key.size ≤ 9223372036854775807 ∧ e.val.size ≤ 9223372036854775807
theorem Fit.app {l m : List Ent} (h : Fit l) (k : Fit m) : Fit (l ++ m) := fun e he => by
  rcases List.mem_append.1 he with he | he
  · exact h e he
  · exact k e he
theorem fit_ok {L : List Ent} (h : ∀ x ∈ L, x.check = 0) : Fit L := fun e he => by have := ent_small (h e he); omega
theorem Fit.sub {l m : List Ent} (h : Fit l) (k : ∀ x ∈ m, x ∈ l) : Fit m := fun e he => h e (k e he)
def OfAns (l : List Ent) (w : World) (e : Ending) (w' : World) : Prop := ∃ g b L, e = .returned (.pointer (some ⟨g, 0, none⟩)) ∧ L = (cmerge [] l).1 ∧ CmAt w' g b L ∧ w.heap.size ≤ g ∧ w.heap.size ≤ b
theorem of_run {l : List Ent} {A : Option Addr} {c : Nat} {w : World} (hs : Fit l) (he : Ents w (.slice A l.length c) l) :
    Calls Try.prog 17 #[.slice A l.length c] w fun e w' => OfAns l w e w' ∧ Only Noth w w' :=
  (cm_of l A c hs w he).mono fun e w' ⟨⟨g, b, h1, h2, h3⟩, ho⟩ => ⟨⟨g, b, _, h1, rfl, h2, h3⟩, ho⟩
def MergeAns (L m : List Ent) (g b : Nat) (e : Ending) (w' : World) : Prop := ∃ (n : Nat) (L' : List Ent), e = .returned (.int .i64 (n : Int)) ∧ n = (cmerge L m).2 ∧ L' = (cmerge L m).1 ∧ CmAt w' g b L'
theorem merge_run {L m : List Ent} {g b : Nat} {A : Option Addr} {c : Nat} {w : World} (h : CmAt w g b L) (hs : Fit m) (he : Ents w (.slice A m.length c) m) :
    Calls Try.prog 23 #[.pointer (some ⟨g, 0, none⟩), .slice A m.length c] w fun e w' => MergeAns L m g b e w' ∧ Only (fun k => k = b) w w' :=
  (cm_merge g b L m A c hs w h he).mono fun e w' ⟨h1, h2, h3⟩ => ⟨⟨_, _, h1, rfl, rfl, h2⟩, h3⟩
def ListAns (M : List Ent) (e : Ending) (w' : World) : Prop := ∃ A c, e = .returned (.slice A M.length c) ∧ Ents w' (.slice A M.length c) M
theorem WhichAns.list {w w' : World} {M : List Ent} {e : Ending} (h : WhichAns w M e w') : ListAns M e w' := by
  obtain ⟨A, c, h1, h2, _⟩ := h.ents
  exact ⟨A, c, h1, h2⟩
theorem list_run {L : List Ent} {g b : Nat} {w : World} (h : CmAt w g b L) : Calls Try.prog 18 #[.pointer (some ⟨g, 0, none⟩)] w fun e w' => ListAns L e w' ∧ Only Noth w w' :=
  (cm_list g b L w h).mono fun e w' ⟨h1, h2⟩ => ⟨h1.list, h2⟩
def FiltAns (N : List Ent) (e : Ending) (w' : World) : Prop := ∃ M A c, M = N ∧ e = .returned (.slice A M.length c) ∧ Ents w' (.slice A M.length c) M
theorem ListAns.filt {N : List Ent} {e : Ending} {w' : World} (h : ListAns N e w') : FiltAns N e w' := by
  obtain ⟨A, c, h1, h2⟩ := h
  exact ⟨N, A, c, rfl, h1, h2⟩
theorem view_run {L : List Ent} {g b : Nat} {w : World} (now : Int) (h : CmAt w g b L) : Calls Try.prog 28 #[.pointer (some ⟨g, 0, none⟩), .int .i64 now] w fun e w' => FiltAns (L.filter fun x => decide (now < x.til)) e w' ∧ Only Noth w w' :=
  (cm_view g b L now w h).mono fun e w' ⟨h1, h2⟩ => ⟨h1.list.filt, h2⟩
theorem delta_run {L m : List Ent} {g b : Nat} {A : Option Addr} {c : Nat} {w : World} (h : CmAt w g b L) (hs : Fit m) (he : Ents w (.slice A m.length c) m) :
    Calls Try.prog 24 #[.pointer (some ⟨g, 0, none⟩), .slice A m.length c] w fun e w' => FiltAns (L.filter (lacks (dbest m))) e w' ∧ Only Noth w w' :=
  (cm_delta g b L m A c (fun e he => (hs e he).1) w h he).mono fun e w' ⟨h1, h2⟩ => ⟨h1.list.filt, h2⟩
theorem same_run {l m : List Ent} {A B : Option Addr} {c d : Nat} {w : World} (ha : Ents w (.slice A l.length c) l) (hb : Ents w (.slice B m.length d) m) :
    Calls Try.prog 22 #[.slice A l.length c, .slice B m.length d] w fun e w' => EqAns (l = m) e ∧ Only Noth w w' := cm_same A B c d l m w ha hb
/-- Two maps beside each other. -/
def Apart (g b h d : Nat) : Prop := g ≠ d ∧ b ≠ d ∧ h ≠ b ∧ d ≠ b
theorem apart {w : World} {g b h d : Nat} {L : List Ent} (hm : CmAt w g b L) (h1 : w.heap.size ≤ h) (h2 : w.heap.size ≤ d) : Apart g b h d := by
  have := hm.own.lt
  have := hm.box.lt
  unfold Apart
  omega
theorem CmAt.beside {w w' : World} {g b d : Nat} {L : List Ent} (hm : CmAt w g b L) (ho : Only (fun k => k = d) w w') (h1 : g ≠ d) (h2 : b ≠ d) : CmAt w' g b L := hm.only ho h1 h2
/-- A row of entries of one's own, in memory newer than w0. -/
def ERow (w0 w : World) (A : Option Addr) (c : Nat) (l : List Ent) : Prop := Row w (New w0) 34 5 (.slice A l.length c) l.length (l.map Ent.cl).flatten
theorem ERow.ents {w0 w : World} {A : Option Addr} {c : Nat} {l : List Ent} (h : ERow w0 w A c l) : Ents w (.slice A l.length c) l := by
  obtain ⟨A', c', hv, k1, k2, hel⟩ := Row.el h (ent_len _) (by omega) (by rw [List.length_map])
  injection hv with e1 _ e3
  subst e1 e3
  exact ⟨A, c, rfl, hel.mono (fun k hk hl => hl), k1, k2⟩
theorem ERow.empty (w0 w : World) (A : Option Addr) : ERow w0 w A 0 [] := Row.empty _ _ _ _ _
theorem ERow.noth {w0 w w' : World} {A : Option Addr} {c : Nat} {l : List Ent} (h : ERow w0 w A c l) (ho : Only Noth w w') : ERow w0 w' A c l := Row.only h ho (fun _ _ h => h)
theorem wpList_app_ents {ops : Array Oper} {rest : List Oper} {o : Oper} {a : Act} {Q : Exit → Act → World → Prop} (w0 w : World) (hgd : o.guard = none) (s x : Operand) (ho : o.op = .call { callee := .builtin .append, args := #[s, x], argTypes := #[22, 22] })
    {A0 : Option Addr} {c0 : Nat} {l m : List Ent} (hs : a.eval s = .slice A0 l.length c0) (hr : ERow w0 w A0 c0 l) {A : Option Addr} {c : Nat} (hx : a.eval x = .slice A m.length c) (hm : Ents w (.slice A m.length c) m) (hn : l.length + m.length ≤ 100000) (hw : Only Noth w0 w)
    (K : ∀ B d M w', M = l ++ m → ERow w0 w' B d M → Only Noth w0 w' → wpList Try.prog ops Q rest (a.put o.dst (.slice B M.length d)) w') : wpList Try.prog ops Q (o :: rest) a w := by
  obtain ⟨i1, hj, hy0, hy1, hy2⟩ := info_parts entinfo
  obtain ⟨A', c', q0, hel, _, _⟩ := hm
  injection q0 with q1 _ q3
  subst q1 q3
  refine wpList_append_row w hgd s x 22 ho 34 i1 (.agg #[.string ⟨#[]⟩, .int .i64 0, .int .u16 0, .string ⟨#[]⟩, .int .i64 0]) 5 56 Try.underlying22 hj hy0 hy1 hy2 rfl (New w0) _ _ l.length _ hs hr A m.length c (m.map Ent.cl).flatten hx (by have := hel.src (ent_len m); rwa [List.length_map] at this) (fun u hu => ?_) (by simp only [maxLen]; omega) (by omega) ?_
  · obtain ⟨cs, hcs, hu⟩ := List.mem_flatten.1 hu
    obtain ⟨e, _, rfl⟩ := List.mem_map.1 hcs
    simp only [List.mem_cons, List.not_mem_nil, or_false] at hu
    rcases hu with rfl | rfl | rfl | rfl | rfl <;> rfl
  · intro v' w3 hrow3 ho3 _
    obtain ⟨B, d, rfl⟩ := hrow3.shape
    have K := K B d (l ++ m) w3 rfl ?_ (hw.trans ho3 (fun j hj hl => by have hj : w0.heap.size ≤ j := hj; omega))
    · rw [List.length_append] at K
      exact K
    · unfold ERow
      rw [List.length_append, List.map_append, List.flatten_append]
      exact hrow3.mono (G := New w0) (fun j hj _ => by
        rcases hj with hj | hj
        · exact hj
        · have := hj.1
          have := hw.size
          show w0.heap.size ≤ j
          omega)
end Go.Proofs.Ytdclkbhkboaafaa
