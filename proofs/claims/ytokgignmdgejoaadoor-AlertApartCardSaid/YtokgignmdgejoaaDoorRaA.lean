/- Lists of alerts, as they lie in memory. -/
import Derived.Test.YtokgignmdgejoaaDoorRaP
import Derived.Test.YtokgignmdgejoaaDoorAlG
namespace Go.Proofs.YtokgignmdgejoaaDoor
open Go.RowKit Go.Lib
set_option linter.unusedVariables false
set_option linter.unusedSimpArgs false
set_option maxRecDepth 100000
attribute [local go_sem ↓] Go.wp_at_zero Go.wp_at_succ

/-- The cells of alerts. -/
def ACs (N : List Al) : List Value := (N.map fun e => e.arr.toList).flatten
theorem acs_cons (e : Al) (N : List Al) : ACs (e :: N) = [.slice (some ⟨e.blk, 0, none⟩) e.ls.length e.cap, .int .i64 e.st, .int .i64 e.en] ++ ACs N := rfl
theorem acs_app (M N : List Al) : ACs (M ++ N) = ACs M ++ ACs N := by unfold ACs; rw [List.map_append, List.flatten_append]
theorem acs_len (N : List Al) : (ACs N).length = N.length * 3 := by
  induction N with
  | nil => rfl
  | cons a t ih => rw [acs_cons, List.length_append, ih]; simp; omega
theorem acs_at : ∀ (N : List Al) (k : Nat) (e : Al), N[k]? = some e → (ACs N)[k * 3]? = some (.slice (some ⟨e.blk, 0, none⟩) e.ls.length e.cap) ∧ (ACs N)[k * 3 + 1]? = some (.int .i64 e.st) ∧ (ACs N)[k * 3 + 2]? = some (.int .i64 e.en)
  | [], k, e, h => by simp at h
  | a :: t, 0, e, h => by
    simp at h
    subst h
    exact ⟨rfl, rfl, rfl⟩
  | a :: t, k + 1, e, h => by
    have ih := acs_at t k e (by simpa using h)
    rw [acs_cons, show (k + 1) * 3 = k * 3 + 3 by omega]
    exact ih
theorem acs_one (N : List Al) : ∀ u ∈ ACs N, u.oneCell' = true := by
  intro u hu
  obtain ⟨cs, hcs, hu⟩ := List.mem_flatten.1 hu
  obtain ⟨e, _, rfl⟩ := List.mem_map.1 hcs
  simp only [List.mem_cons, List.not_mem_nil, or_false] at hu
  rcases hu with rfl | rfl | rfl <;> rfl
/-- A list of alerts in memory, in blocks of S; their labels as well. -/
structure LsAt (w : World) (S : Nat → Prop) (A : Option Addr) (c : Nat) (N : List Al) : Prop where
  mem : 0 < N.length → ∃ b o, A = some ⟨b, o, none⟩ ∧ S b ∧ b < w.heap.size ∧ ∀ (k : Nat) (e : Al), N[k]? = some e → w.cell? ⟨b, o + k * 3, none⟩ = some (.slice (some ⟨e.blk, 0, none⟩) e.ls.length e.cap) ∧ w.cell? ⟨b, o + k * 3 + 1, none⟩ = some (.int .i64 e.st) ∧ w.cell? ⟨b, o + k * 3 + 2, none⟩ = some (.int .i64 e.en)
  labs : ∀ e ∈ N, PsAt w S (some ⟨e.blk, 0, none⟩) e.cap e.ls
  cap : N.length ≤ c
  top : c ≤ 9223372036854775807
section
variable {w w' : World} {S T F : Nat → Prop} {A : Option Addr} {c : Nat} {N : List Al}
theorem LsAt.only (h : LsAt w S A c N) (ho : Only F w w') (hSF : ∀ k, S k → ¬ F k) : LsAt w' S A c N :=
  ⟨fun hl => by
    obtain ⟨b, o, hA, hS, hb, hc⟩ := h.mem hl
    exact ⟨b, o, hA, hS, Nat.lt_of_lt_of_le hb ho.size, fun k e he => ⟨(ho.cell (p := ⟨b, o + k * 3, none⟩) hb (hSF b hS)).trans (hc k e he).1, (ho.cell (p := ⟨b, o + k * 3 + 1, none⟩) hb (hSF b hS)).trans (hc k e he).2.1, (ho.cell (p := ⟨b, o + k * 3 + 2, none⟩) hb (hSF b hS)).trans (hc k e he).2.2⟩⟩, fun e he => (h.labs e he).only ho hSF, h.cap, h.top⟩
theorem LsAt.noth (h : LsAt w S A c N) (ho : Only Noth w w') : LsAt w' S A c N := h.only ho (fun _ _ h => h)
theorem LsAt.mono (h : LsAt w S A c N) (hST : ∀ k, S k → k < w.heap.size → T k) : LsAt w T A c N :=
  ⟨fun hl => by
    obtain ⟨b, o, hA, hS, hb, hc⟩ := h.mem hl
    exact ⟨b, o, hA, hST b hS hb, hb, hc⟩, fun e he => (h.labs e he).mono hST, h.cap, h.top⟩
theorem LsAt.nil (w : World) (S : Nat → Prop) (A : Option Addr) (c : Nat) (hc : c ≤ 9223372036854775807) : LsAt w S A c [] := ⟨fun h => absurd h (by simp), fun e h => absurd h (by simp), Nat.zero_le _, hc⟩
theorem LsAt.src (h : LsAt w S A c N) : Src w S 3 A N.length (ACs N) := by
  refine ⟨acs_len N, fun hl => ?_⟩
  obtain ⟨b, o, hA, hS, hb, hc⟩ := h.mem hl
  refine ⟨⟨b, o, none⟩, hA, hS, hb, fun j u hu => ?_⟩
  have hj : j < N.length * 3 := by rw [← acs_len]; exact (List.getElem?_eq_some_iff.1 hu).1
  obtain ⟨e, he⟩ : ∃ e, N[j / 3]? = some e := ⟨_, List.getElem?_eq_getElem (by omega)⟩
  obtain ⟨a0, a1, a2⟩ := acs_at N _ e he
  obtain ⟨b0, b1, b2⟩ := hc _ e he
  rw [add_plain']
  have hm : j % 3 = 0 ∨ j % 3 = 1 ∨ j % 3 = 2 := by omega
  rcases hm with e0 | e0 | e0
  · have ej : j = j / 3 * 3 := by omega
    rw [← ej] at a0 b0
    rw [a0] at hu
    rw [← hu]
    exact b0
  · have ej : j = j / 3 * 3 + 1 := by omega
    rw [show o + j / 3 * 3 + 1 = o + (j / 3 * 3 + 1) by omega, ← ej] at b1
    rw [← ej] at a1
    rw [a1] at hu
    rw [← hu]
    exact b1
  · have ej : j = j / 3 * 3 + 2 := by omega
    rw [show o + j / 3 * 3 + 2 = o + (j / 3 * 3 + 2) by omega, ← ej] at b2
    rw [← ej] at a2
    rw [a2] at hu
    rw [← hu]
    exact b2
theorem LsAt.of_row {G : Nat → Prop} (h : Row w G 27 3 (.slice A N.length c) N.length (ACs N)) (hG : ∀ k, G k → k < w.heap.size → S k) (hl : ∀ e ∈ N, PsAt w S (some ⟨e.blk, 0, none⟩) e.cap e.ls) : LsAt w S A c N := by
  have hs := h.src
  obtain ⟨_, A', cap, hv, k1, k2, k3⟩ := h
  injection hv with e1 _ e3
  subst e1 e3
  refine ⟨fun hp => ?_, hl, k1, by simpa [maxLen] using k2⟩
  rcases k3 with k3 | ⟨g, cur, hA, hF, hg, hc, ht⟩
  · omega
  · obtain ⟨ad, hA2, hS, hb, hcell⟩ := hs.2 hp
    rw [hA] at hA2
    injection hA2 with hA2
    subst hA2
    refine ⟨g, 0, hA, hG g hF hb, hb, fun k e he => ?_⟩
    obtain ⟨a0, a1, a2⟩ := acs_at N k e he
    have h0 := hcell _ _ a0
    have h1 := hcell _ _ a1
    have h2 := hcell _ _ a2
    rw [add_plain'] at h0 h1 h2
    exact ⟨h0, by rw [show 0 + k * 3 + 1 = 0 + (k * 3 + 1) by omega]; exact h1, by rw [show 0 + k * 3 + 2 = 0 + (k * 3 + 2) by omega]; exact h2⟩
theorem ls_to (k : Nat) (h : LsAt w S A c N) (hk : k ≤ N.length) :
    ∃ A', (∀ V : World, (Instr.slice 32 (.slice A N.length c) none (some (.int .i64 k)) none).run Tryd.prog V = .ok (.slice A' (N.take k).length c) V) ∧ LsAt w S A' c (N.take k) := by
  have h1 := h.cap
  have h2 := h.top
  have hl : (N.take k).length = k := by rw [List.length_take]; omega
  refine ⟨if c = 0 then A else A.map (·.add 0), fun V => ?_, fun hp => ?_, fun e he => h.labs e (List.mem_of_mem_take he), by omega, h2⟩
  · have hz := Tryd.sizeOf27 V
    have hr := run_slice_h (P := Tryd.prog) V 32 A N.length c (by kernel_rfl) .i64 (k : Int) (by omega) (by omega)
    rw [show Tryd.prog.elem 32 = 27 by kernel_rfl, hz] at hr
    rw [hr, hl]
    simp [Result.andThen, sliced]
  · obtain ⟨b, o, hA, hS, hb, hc⟩ := h.mem (by omega)
    subst hA
    rw [if_neg (by omega)]
    refine ⟨b, o, by simp [add_plain'], hS, hb, fun j e hj => hc j e ?_⟩
    rw [List.getElem?_take] at hj
    split at hj
    · exact hj
    · cases hj
theorem ls_from (k : Nat) (h : LsAt w S A c N) (hk : k ≤ N.length) :
    ∃ A' c', (∀ V : World, (Instr.slice 32 (.slice A N.length c) (some (.int .i64 k)) none none).run Tryd.prog V = .ok (.slice A' (N.drop k).length c') V) ∧ LsAt w S A' c' (N.drop k) := by
  have h1 := h.cap
  have h2 := h.top
  have hl : (N.drop k).length = N.length - k := List.length_drop
  refine ⟨if c = k then A else A.map (·.add (k * 3)), c - k, fun V => ?_, fun hp => ?_, fun e he => h.labs e (List.mem_of_mem_drop he), by omega, by omega⟩
  · have hz := Tryd.sizeOf27 V
    have hr := run_slice_l (P := Tryd.prog) V 32 A N.length c (by kernel_rfl) .i64 (k : Int) (by omega) (by omega)
    rw [show Tryd.prog.elem 32 = 27 by kernel_rfl, hz] at hr
    rw [hr, hl]
    simp [Result.andThen, sliced]
  · rw [hl] at hp
    obtain ⟨b, o, hA, hS, hb, hc⟩ := h.mem (by omega)
    subst hA
    rw [if_neg (by omega)]
    refine ⟨b, o + k * 3, by simp [add_plain'], hS, hb, fun j e hj => ?_⟩
    rw [List.getElem?_drop] at hj
    have := hc (k + j) e hj
    rw [show o + k * 3 + j * 3 = o + (k + j) * 3 by omega]
    exact this
end
/-- A row of alerts of one's own, in memory newer than w0. -/
def ARow (w0 w : World) (A : Option Addr) (c : Nat) (N : List Al) : Prop := Row w (New w0) 27 3 (.slice A N.length c) N.length (ACs N)
theorem ARow.empty (w0 w : World) (A : Option Addr) : ARow w0 w A 0 [] := Row.empty _ _ _ _ _
theorem ARow.noth {w0 w w' : World} {A : Option Addr} {c : Nat} {N : List Al} (h : ARow w0 w A c N) (ho : Only Noth w w') : ARow w0 w' A c N := Row.only h ho (fun _ _ h => h)
theorem ARow.up {w0 wb w : World} {A : Option Addr} {c : Nat} {N : List Al} (h : ARow wb w A c N) (ho : w0.heap.size ≤ wb.heap.size) : ARow w0 w A c N := Row.mono h (fun k hk _ => Nat.le_trans ho hk)
theorem app_als_run (w0 w : World) (ty : TypeId) {A0 : Option Addr} {c0 : Nat} {l m : List Al} (hr : ARow w0 w A0 c0 l) {S : Nat → Prop} {A : Option Addr} {c : Nat} (hm : Src w S 3 A m.length (ACs m)) (hn : l.length + m.length ≤ 100000) (hw : Only Noth w0 w) :
    ∃ B d w', (Builtin.append_ #[32, 32] ty #[.slice A0 l.length c0, .slice A m.length c]).run Tryd.prog w = .ok (.slice B (l ++ m).length d) w' ∧ ARow w0 w' B d (l ++ m) ∧ Only (New w0) w w' := by
  obtain ⟨i1, hj, hy0, hy1, hy2⟩ := info_parts alinfo
  obtain ⟨v', w', hrun, hrow, ho, _⟩ := run_append_row (P := Tryd.prog) w 32 ty 27 i1 (.agg #[.slice none 0 0, .int .i64 0, .int .i64 0]) 3 40 Tryd.underlying32 hj hy0 hy1 hy2 rfl (New w0) _ _ l.length _ hr A m.length c (ACs m) hm (acs_one m) (by simp only [maxLen]; omega) (by omega)
  obtain ⟨B, d, rfl⟩ := hrow.shape
  refine ⟨B, d, w', ?_, ?_, ho⟩
  · rw [List.length_append]; exact hrun
  · unfold ARow
    rw [List.length_append, acs_app]
    exact hrow.mono (G := New w0) (fun j hj _ => by
      rcases hj with hj | hj
      · exact hj
      · have := hj.1
        have := hw.size
        show w0.heap.size ≤ j
        omega)
theorem wpList_app_als {ops : Array Oper} {rest : List Oper} {o : Oper} {a : Act} {Q : Exit → Act → World → Prop} (w0 w : World) (hgd : o.guard = none) (s x : Operand) (ho : o.op = .call { callee := .builtin .append, args := #[s, x], argTypes := #[32, 32] })
    {A0 : Option Addr} {c0 : Nat} {l m : List Al} (hs : a.eval s = .slice A0 l.length c0) (hr : ARow w0 w A0 c0 l) {S : Nat → Prop} {A : Option Addr} {c : Nat} (hx : a.eval x = .slice A m.length c) (hm : Src w S 3 A m.length (ACs m)) (hn : l.length + m.length ≤ 100000) (hw : Only Noth w0 w)
    (K : ∀ B d M w', M = l ++ m → ARow w0 w' B d M → Only (New w0) w w' → wpList Tryd.prog ops Q rest (a.put o.dst (.slice B M.length d)) w') : wpList Tryd.prog ops Q (o :: rest) a w := by
  obtain ⟨i1, hj, hy0, hy1, hy2⟩ := info_parts alinfo
  refine wpList_append_row w hgd s x 32 ho 27 i1 (.agg #[.slice none 0 0, .int .i64 0, .int .i64 0]) 3 40 Tryd.underlying32 hj hy0 hy1 hy2 rfl (New w0) _ _ l.length _ hs hr A m.length c (ACs m) hx hm (acs_one m) (by simp only [maxLen]; omega) (by omega) ?_
  intro v' w3 hrow3 ho3 _
  obtain ⟨B, d, rfl⟩ := hrow3.shape
  have K := K B d (l ++ m) w3 rfl ?_ ho3
  · rw [List.length_append] at K
    exact K
  · unfold ARow
    rw [List.length_append, acs_app]
    exact hrow3.mono (G := New w0) (fun j hj _ => by
      rcases hj with hj | hj
      · exact hj
      · have := hj.1
        have := hw.size
        show w0.heap.size ≤ j
        omega)
theorem al_src {w : World} {p : Nat} {e : Al} (h : Hld w p 27 e.arr) : Src w (fun k => k < w.heap.size) 3 (some ⟨p, 0, none⟩) 1 (ACs [e]) := by
  have h1 : Src w (fun k => k < w.heap.size) 1 (some ⟨p, 0, none⟩) 3 (ACs [e]) := h.src 3 rfl
  exact h1.regroup (by omega)
section
variable {P : Program} {ops : Array Oper} {Q : Exit → Act → World → Prop} {md : Region.Mode} {F : Nat → Prop} {w0 : World}
/-- Two operations that may come up in either order; what they yield is new. -/
theorem wpN_run2 {i j : Nat} {o o' : Oper} {d d' : Option Tmp} {n : Nat} {listed : Array Bool} {a : Act} {w : World} (T U : Value → World → Prop)
    (hT : ∀ v w1 w2, T v w1 → Only Noth w1 w2 → T v w2) (hU : ∀ v w1 w2, U v w1 → Only Noth w1 w2 → U v w2)
    (hr : Region.ready md ops listed = [i, j]) (hri : Region.ready md ops (listed.setIfInBounds i true) = [j]) (hrj : Region.ready md ops (listed.setIfInBounds j true) = [i]) (hij : i ≠ j)
    (hi : ops[i]? = some o) (hj : ops[j]? = some o') (hdd : o.dst = d) (hdd' : o'.dst = d') (hg : o.guard = none) (hg' : o'.guard = none) (hd : ∀ e, d = some e → d' ≠ some e)
    (hS : Only F w0 w)
    (he : ∀ u w1, Only Noth w w1 → ∃ v w2, (execOp a.eval o).run P w1 = .ok (.value v) w2 ∧ (execOp (a.put d' u).eval o).run P w1 = .ok (.value v) w2 ∧ T v w2 ∧ Only Noth w1 w2)
    (he' : ∀ u w1, Only Noth w w1 → ∃ v w2, (execOp a.eval o').run P w1 = .ok (.value v) w2 ∧ (execOp (a.put d u).eval o').run P w1 = .ok (.value v) w2 ∧ U v w2 ∧ Only Noth w1 w2)
    (h : ∀ v u w2, T v w2 → U u w2 → Only Noth w w2 → wpN P md ops Q F w0 n ((listed.setIfInBounds i true).setIfInBounds j true) ((a.put d v).put d' u) w2) : wpN P md ops Q F w0 (n + 2) listed a w := by
  subst hdd hdd'
  have hw : ∀ b : Act, Region.wanted o (yielded ops b.tmps) = true := fun b => by simp [Region.wanted, hg]
  have hw' : ∀ b : Act, Region.wanted o' (yielded ops b.tmps) = true := fun b => by simp [Region.wanted, hg']
  refine wpN_two hr hi (hw a) hj (hw' a) (fun w1 h1 => ?_) (fun w1 h1 => ?_)
  · obtain ⟨v, w2, hrun, _, ht, ho⟩ := he .nilFunc w1 h1
    have k2 := h1.tr ho
    unfold Oper.wp
    rw [hrun]
    refine ⟨only_up w0 _ _ hS k2, wpN_one hri hj (hw' _) (fun w3 h3 => ?_)⟩
    obtain ⟨u, w4, _, hrun4, hu, ho4⟩ := he' v w3 (k2.tr h3)
    have k4 := (k2.tr h3).tr ho4
    unfold Oper.wp
    rw [hrun4]
    exact ⟨only_up w0 _ _ hS k4, h v u w4 (hT _ _ _ (hT _ _ _ ht h3) ho4) hu k4⟩
  · obtain ⟨u, w2, hrun, _, hu, ho⟩ := he' .nilFunc w1 h1
    have k2 := h1.tr ho
    unfold Oper.wp
    rw [hrun]
    refine ⟨only_up w0 _ _ hS k2, wpN_one hrj hi (hw _) (fun w3 h3 => ?_)⟩
    obtain ⟨v, w4, _, hrun4, ht, ho4⟩ := he u w3 (k2.tr h3)
    have k4 := (k2.tr h3).tr ho4
    unfold Oper.wp
    rw [hrun4]
    refine ⟨only_up w0 _ _ hS k4, ?_⟩
    have := h v u w4 ht (hU _ _ _ (hU _ _ _ hu h3) ho4) k4
    rw [Array.setIfInBounds_comm _ _ hij, Act.put_comm _ _ _ hd] at this
    exact this
end
section
variable {P : Program} {ops : Array Oper} {o : Oper} {a : Act} {w0 : World} {F : Nat → Prop}
/-- A slice expression whose answer is known. -/
theorem sure_slice {t : TypeId} {x : Operand} {lo hi : Option Operand} {X v : Value} {LO HI : Option Value} (hr : ∀ V : World, (Instr.slice t X LO HI none).run P V = .ok v V) (ht : P.underlying t = some (.slice (P.elem t))) (hw : Region.wanted o (yielded ops a.tmps) = true) (ho : o.op = .slice t x lo hi none)
    (hx : a.eval x = X) (hlo : lo.map a.eval = LO) (hhi : hi.map a.eval = HI) : Sure P ops (Only Noth) (Only F w0) o v a := by
  refine sure_value hw (fun w1 _ => ?_)
  subst hx hlo hhi
  unfold execOp
  simp only [ho, Option.map_none, run_sliceAt_slice _ _ _ _ _ _ ht, Sem.run_bind, hr w1, Result.andThen_ok, Sem.run_pure]
end
/-- What is told, as a list in new memory. -/
theorem which_ls {w w' : World} {M : List Al} {e : Ending} (h : WhichAns w M e w') : ∃ A c N, e = .returned (.slice A N.length c) ∧ N.map Al.core = M.map Al.core ∧ LsAt w' (New w) A c N ∧ (N.map Al.blk).Pairwise (· < ·) ∧ (∀ n ∈ N, w.heap.size ≤ n.blk ∧ n.blk < w'.heap.size ∧ (∀ o, A = some ⟨n.blk, o, none⟩ → 0 < N.length → False) ∧ Wide w' n.blk (n.ls.length * 2)) := by
  obtain ⟨A, c, N, rfl, hl, ht, hr, hp⟩ := h
  have hx : ∀ n ∈ N, ∃ m, Told1 w w' A c m n := fun n hn => by
    obtain ⟨i, hi, rfl⟩ := List.mem_iff_getElem.1 hn
    exact ⟨_, ht i _ _ (List.getElem?_eq_getElem (by omega)) (List.getElem?_eq_getElem hi)⟩
  rw [← hl] at hr
  refine ⟨A, c, N, by rw [hl], ?_, LsAt.of_row hr (fun k hk _ => hk) (fun n hn => ?_), hp, fun n hn => ?_⟩
  · apply List.ext_getElem?
    intro i
    rw [List.getElem?_map, List.getElem?_map]
    cases hm : M[i]? with
    | none =>
      rw [List.getElem?_eq_none_iff] at hm
      rw [List.getElem?_eq_none_iff.2 (by omega)]
    | some m =>
      obtain ⟨n, hn⟩ : ∃ n, N[i]? = some n := ⟨_, List.getElem?_eq_getElem (by have := (List.getElem?_eq_some_iff.1 hm).1; omega)⟩
      obtain ⟨t1, t2, t3, _⟩ := ht i m n hm hn
      rw [hn]
      simp only [Option.map_some, Al.core, t1, t2, t3]
  · obtain ⟨m, _, _, _, t4, _, _, t7, _⟩ := hx n hn
    exact t7.mono (fun k hk _ => by have hk : k = n.blk := hk; subst hk; exact t4)
  · obtain ⟨m, _, _, _, t4, t5, t6, _, t8⟩ := hx n hn
    refine ⟨t4, t6, fun o hA hp => ?_, t8⟩
    obtain ⟨_, A', cap, hv, k1, k2, k3⟩ := hr
    injection hv with e1 _ e3
    subst e1 e3
    rcases k3 with k3 | ⟨g, cur, hA2, _⟩
    · omega
    · rw [hA] at hA2
      injection hA2 with hA2
      injection hA2 with _ e4
      subst e4
      exact t5 ⟨by omega, hA⟩
end Go.Proofs.YtokgignmdgejoaaDoor
