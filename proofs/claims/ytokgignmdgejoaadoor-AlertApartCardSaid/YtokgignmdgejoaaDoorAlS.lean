/- Maps of alerts: operations in drawn regions; keys that are sorted; a range beside other memory. -/
import Derived.Test.YtokgignmdgejoaaDoorAlM
import Derived.Test.YtokgignmdgejoaaDoorOrd
import Derived.Deep.DrawnRows
import Derived.Sort.OwnSorted
import Derived.Sort.KeysCollected
namespace Go.Proofs.YtokgignmdgejoaaDoor
open Go.RowKit Go.Lib Go.Sort
set_option linter.unusedVariables false
set_option linter.unusedSimpArgs false
set_option maxRecDepth 100000
attribute [local go_sem ↓] Go.wp_at_zero Go.wp_at_succ

section
variable {ops : Array Oper} {o : Oper} {a : Act} {w0 : World} {F : Nat → Prop}
theorem sure_lit {v : Value} {g i : Nat} {cs : Array Value} {t : TypeId} (h : Hld w0 g t cs) (hi : cs[i]? = some v) (hF : ¬ F g) (hw : Region.wanted o (yielded ops a.tmps) = true)
    (he : ∀ w, w.cell? ⟨g, i, none⟩ = some v → (execOp a.eval o).run Tryd.prog w = .ok (.value v) w) : Sure Tryd.prog ops (Only Noth) (Only F w0) o v a :=
  sure_value hw (fun w1 k1 => he w1 (((h.only k1 hF).cell i).trans hi))
/-- A look-up with 'ok' in a map of entries. -/
theorem sure_look {b : Nat} {L : List Al} {k : ByteArray} {m x : Operand} (h : MapIs w0 b L) (hF : ¬ F b) (hk : k.size ≤ 9223372036854775807) (hw : Region.wanted o (yielded ops a.tmps) = true) (ho : o.op = .lookup 59 m x true) (hm : a.eval m = .map (some b)) (hx : a.eval x = .string k) :
    Sure Tryd.prog ops (Only Noth) (Only F w0) o (.tuple #[.agg (look k L), .bool (cget k.data.toList L).isSome]) a :=
  sure_value hw (fun w1 k1 => by
    have := look_ok_run (h.only k1 hF) k hk
    simp [execOp, ho, hm, hx, this, Result.andThen])
/-- An entry is stored in a map of entries. -/
theorem wpN_map {Q : Exit → Act → World → Prop} {md : Region.Mode} {w : World} {i n : Nat} {listed : Array Bool} {b : Nat} {L : List Al} {e : Al} {m x v : Operand} (hr : Region.ready md ops listed = [i]) (hi : ops[i]? = some o) (hw : Region.wanted o (yielded ops a.tmps) = true) (hdst : o.dst = none)
    (ho : o.op = .mapUpdate 59 m x v) (hm : a.eval m = .map (some b)) (hx : a.eval x = .string e.key) (hv : a.eval v = .agg e.arr) (h : MapIs w b L) (hk : e.key.size ≤ 9223372036854775807) (hn : L.length < 9223372036854775807) (hS : Only F w0 w) (hF : F b)
    (K : ∀ w2, MapIs w2 b (cput e L) → Only (fun k => k = b) w w2 → Only F w0 w2 → wpN Tryd.prog md ops Q F w0 n (listed.setIfInBounds i true) a w2) : wpN Tryd.prog md ops Q F w0 (n + 1) listed a w := by
  refine wpN_one hr hi hw (fun w1 k1 => ?_)
  obtain ⟨w', hrun, h2, h3⟩ := put_run (h.only k1 (fun h => h)) e hk hn
  have hA : Only (fun k => k = b) w w' := (k1.mono (G := fun k => k = b) (fun j hj _ => hj.elim)).trans h3 (fun j hj _ => hj)
  have hE : Only F w0 w' := hS.trans hA (fun j hj _ => by have hj : j = b := hj; rw [hj]; exact hF)
  have hp : ∀ u, a.put none u = a := fun _ => rfl
  have := And.intro hE (K w' h2 hA hE)
  unfold Oper.wp
  simp [execOp, ho, hm, hx, hv, hrun, Result.andThen]
  simpa [Oper.upon, hdst, hp] using this
end
/-- How many a map of entries has. -/
theorem wpList_len_map {ops : Array Oper} {rest : List Oper} {o : Oper} {a : Act} {Q : Exit → Act → World → Prop} (w : World) (hg : o.guard = none) (m : Operand) (hop : o.op = Op.call { callee := Callee.builtin Builtin.len, args := #[m], argTypes := #[59] }) (b : Nat) (L : List Al) (hm : a.eval m = .map (some b)) (h : MapIs w b L)
    (K : wpList Tryd.prog ops Q rest (a.put o.dst (.int .i64 L.length)) w) : wpList Tryd.prog ops Q (o :: rest) a w := by
  refine wpList_len_own w hg m 59 hop 9 27 Tryd.underlying59 entElem b L.length (mapD L) hm h ?_
  rw [size_map]
  exact K
/-- A row, its own block alone. -/
def OwnB (A : Option Addr) (c : Nat) : Nat → Prop := fun k => c ≠ 0 ∧ A = some ⟨k, 0, none⟩
theorem Row.tight {w : World} {F : Nat → Prop} {e : TypeId} {size n c : Nat} {A : Option Addr} {xs : List Value} (h : Row w F e size (.slice A n c) n xs) : Row w (OwnB A c) e size (.slice A n c) n xs ∧ ∀ k, OwnB A c k → F k ∧ ∃ cur, w.heap[k]? = some (.cells cur e (0, 0)) := by
  obtain ⟨hl, A', cap, hv, h1, h2, h3⟩ := h
  injection hv with e1 e2 e3
  subst e1
  subst e3
  rcases h3 with h3 | ⟨g, cur, hA, hF, hg, hc, ht⟩
  · exact ⟨⟨hl, A, c, rfl, h1, h2, .inl h3⟩, fun k hk => absurd h3 hk.1⟩
  · by_cases hc0 : c = 0
    · exact ⟨⟨hl, A, c, rfl, h1, h2, .inl hc0⟩, fun k hk => absurd hc0 hk.1⟩
    · refine ⟨⟨hl, A, c, rfl, h1, h2, .inr ⟨g, cur, hA, ⟨hc0, hA⟩, hg, hc, ht⟩⟩, fun k hk => ?_⟩
      have := hk.2
      rw [hA] at this
      injection this with this
      injection this with this
      subst this
      exact ⟨hF, cur, hg⟩
theorem Hld.src {w : World} {g : Nat} {t : TypeId} {cs : Array Value} (h : Hld w g t cs) (n : Nat) (hn : cs.size = n) : Src w (fun k => k < w.heap.size) 1 (some ⟨g, 0, none⟩) n cs.toList := by
  refine ⟨by simp [hn], fun _ => ⟨_, rfl, h.lt, h.lt, fun j u hu => ?_⟩⟩
  rw [add_plain', Nat.zero_add, h.cell j]
  simpa using hu
theorem Src.regroup {w : World} {S : Nat → Prop} {A : Option Addr} {n : Nat} {xs : List Value} (hn : 0 < n) (h : Src w S 1 A n xs) : Src w S n A 1 xs :=
  ⟨by have := h.1; omega, fun _ => h.2 hn⟩
theorem lt_before : ∀ {a b : List UInt8}, a < b → bytesBefore a b = true := by
  intro a b h
  induction h with
  | nil => rfl
  | rel h => simp only [bytesBefore, Bool.or_eq_true, decide_eq_true_eq]; exact .inl h
  | cons h ih => simp only [bytesBefore, beq_self_eq_true, Bool.true_and, Bool.or_eq_true]; exact .inr ih
theorem before_le {a b : List UInt8} (h : bytesBefore a b = true) : a ≤ b := by
  intro hlt
  have := before_anti h
  rw [lt_before hlt] at this
  cases this
theorem srt_kbs {L : List Al} (h : Srt L) : (L.map Al.kb).Nodup := by
  refine List.pairwise_map.2 (h.imp fun {a b} hab => before_ne hab)
/-- The keys that were collected, sorted. -/
theorem sort_keys {L : List Al} {p : Al → Bool} {ss : List (List UInt8)} (hs : Srt L) (hnd : ss.Nodup) (hm : ∀ k, k ∈ ss ↔ ∃ e ∈ L, p e = true ∧ e.kb = k) : ss.mergeSort (fun x y => decide (x ≤ y)) = (L.filter p).map Al.kb := by
  have hp : ss.Perm ((L.filter p).map Al.kb) := by
    refine (List.perm_ext_iff_of_nodup hnd (srt_kbs (filter_srt p hs))).2 fun k => ?_
    rw [hm k, List.mem_map]
    constructor
    · rintro ⟨e, h1, h2, h3⟩
      exact ⟨e, List.mem_filter.2 ⟨h1, h2⟩, h3⟩
    · rintro ⟨e, h1, h3⟩
      obtain ⟨h1, h2⟩ := List.mem_filter.1 h1
      exact ⟨e, h1, h2, h3⟩
  have h1 := mergeSort_of_perm hp
  have h2 : ((L.filter p).map Al.kb).Pairwise (fun a b => leB a b = true) := by
    refine List.pairwise_map.2 ((filter_srt p hs).imp fun {a b} hab => ?_)
    simp only [leB, decide_eq_true_eq]
    exact before_le hab
  exact h1.trans (List.mergeSort_of_pairwise h2)
theorem sort_row (A : Option Addr) (c : Nat) (ss : List (List UInt8)) (w : World) (F : Nat → Prop) (hr : Row w F 9 1 (.slice A ss.length c) ss.length (ss.map encStr)) (hz : ss.length < 4611686018427387904) :
    Calls Tryd.prog 51 #[.slice A ss.length c] w fun e w' => e = .returned (.tuple #[]) ∧ Row w' F 9 1 (.slice A ss.length c) ss.length ((ss.mergeSort fun x y => decide (x ≤ y)).map encStr) ∧ Only (OwnB A c) w w' := by
  rcases Nat.eq_zero_or_pos ss.length with h0 | h0
  · have hss : ss = [] := List.eq_nil_of_length_eq_zero h0
    subst hss
    refine (Tryd.slices_Sort_string_none A c w).mono ?_
    rintro e w' ⟨rfl, rfl⟩
    exact ⟨rfl, by simpa using hr, Only.refl _ _⟩
  · obtain ⟨hl, A', cap, hv, h1, h2, h3⟩ := hr
    injection hv with e1 _ e3
    subst e1 e3
    rcases h3 with h3 | ⟨g, cur, rfl, hF, hg, hc, ht⟩
    · omega
    · have hH : Holds encStr w g 0 ss.toArray := holds_of_block hg (by simpa using ht)
      refine (Tryd.slices_Sort_string g 0 c ss w hH (Array.getElem?_eq_some_iff.1 hg).1 hz).mono ?_
      rintro e w' ⟨rfl, n, os, rfl⟩
      have hts : (ss.mergeSort fun x y => decide (x ≤ y)).length = ss.length := List.length_mergeSort _
      refine ⟨rfl, ⟨by simp [hts], _, _, rfl, h1, h2, .inr ⟨g, _, rfl, hF, heap_sorted _ hg, by simpa [putCells] using hc, ?_⟩⟩, ?_⟩
      · rw [Nat.mul_one, ← hts]
        exact take_putCells cur _ (by rw [hts]; omega)
      · have hgw := grownBy_sorted (w := w) (g := g) (n := n) (os := os) (ss.mergeSort fun x y => decide (x ≤ y)).toArray
        exact ⟨hgw.os, hgw.tape, hgw.output, hgw.size, fun i hi hn => hgw.block i hi (fun e => hn ⟨by omega, by rw [Option.some.inj e]⟩)⟩
theorem ranges_only {w w' : World} {F : Nat → Prop} {b r n cnt : Nat} {D : DataW Unit} {left : Lit → Bool} (h : w.ranges Tryd.prog 9 entElem b r n D left cnt) (ho : Only F w w') (hb : ¬ F b) (hr : ¬ F r) : w'.ranges Tryd.prog 9 entElem b r n D left cnt := by
  obtain ⟨es, clock, since, seen, c0, h1, h2, h3, h4, h5, h6⟩ := h
  exact ⟨es, clock, since, seen, c0, (ho.block b (Array.getElem?_eq_some_iff.1 h1).1 hb).trans h1, h2, h3, h4, (ho.block r (Array.getElem?_eq_some_iff.1 h5).1 hr).trans h5, h6⟩
theorem only_grown0 {w w' : World} (h : w.grownBy w' none) : Only Noth w w' := ⟨h.os, h.tape, h.output, h.size, fun i hi _ => h.block i hi (by simp)⟩
theorem inv_key : ∀ (key : Value) (kl : Lit), keyOf Tryd.prog 9 key = some kl → ∃ x : List UInt8, key = encStr x := fun key kl hk => by
  obtain ⟨x, hx, _⟩ := Maps.keyOf_str Tryd.underlying9 hk
  exact ⟨x, hx⟩
theorem inv_ent : ∀ (v : Value) (y : DataW Unit × List MemPlace), entElem v = some y → ∃ c : Array Value, v = .agg c := fun v y h => by
  rcases entElem_inv h with ⟨e, he, _⟩ | ⟨he, _⟩
  · exact ⟨_, he⟩
  · exact ⟨_, he⟩
/-- An alert that the range has met. -/
theorem met {L : List Al} {x : List UInt8} {c : Array Value} {kl : Lit} {yd : DataW Unit} {yp : List MemPlace} (hkey : keyOf Tryd.prog 9 (encStr x) = some kl) (hv : entElem (.agg c) = some (yd, yp)) (hat : ∀ zd, (mapD L).atKey kl zd = yd) : kl = .string x ∧ ∃ d, cget x L = some d ∧ c = d.arr := by
  obtain ⟨x', ex, rfl, _⟩ := Maps.keyOf_str Tryd.underlying9 hkey
  obtain rfl : x = x' := encStr_inj ex
  refine ⟨rfl, ?_⟩
  cases hg : cget x L with
  | none =>
    have h1 := hat (nilD 0 0 0)
    have h2 := hat .nil
    rw [get_map, hg] at h1 h2
    simp only at h1 h2
    rw [← h2] at h1
    cases h1
  | some d =>
    have h1 := hat .nil
    rw [get_map, hg] at h1
    simp only at h1
    refine ⟨d, rfl, ?_⟩
    rcases entElem_inv hv with ⟨e, he, hz⟩ | ⟨he, hz⟩
    · injection he with he
      injection hz with hz _
      rw [he]
      exact entD_inj (hz.symm.trans h1.symm)
    · injection hz with hz _
      exact absurd (h1.trans hz) raw_nil
/-- At the head of the loop over the map. -/
def WR1 (w : World) (b : Nat) (L : List Al) (p : Al → Bool) (v : Value) (wr : World) : Prop :=
  ∃ (left : Lit → Bool) (cnt : Nat) (ss : List (List UInt8)), wr.ranges Tryd.prog 9 entElem b w.heap.size L.length (mapD L) left cnt ∧ (∃ A c, v = .slice A ss.length c) ∧ Row wr (fun k => w.heap.size < k) 9 1 v ss.length (ss.map encStr) ∧
    ss.Nodup ∧ (∀ k, k ∈ ss ↔ ∃ x ∈ L, p x = true ∧ x.kb = k ∧ left (.string k) = false) ∧ Only Noth w wr ∧ ss.length + cnt ≤ L.length
theorem left_off {left : Lit → Bool} {k y : List UInt8} : (left (.string k) && !(Lit.string k).sameKey (.string y)) = false ↔ left (.string k) = false ∨ k = y := by
  have : (Lit.string k).sameKey (.string y) = (k == y) := rfl
  rw [this]
  by_cases h : k = y
  · simp [h]
  · have : (k == y) = false := by simpa using h
    simp [this, h]
theorem ss_stay {L : List Al} {p : Al → Bool} {ss : List (List UInt8)} {left : Lit → Bool} {y : Al} (hs : Srt L) (hm : ∀ k, k ∈ ss ↔ ∃ x ∈ L, p x = true ∧ x.kb = k ∧ left (.string k) = false) (hy : y ∈ L) (hp : p y = false) :
    ∀ k, k ∈ ss ↔ ∃ x ∈ L, p x = true ∧ x.kb = k ∧ (left (.string k) && !(Lit.string k).sameKey (.string y.kb)) = false := fun k => by
  rw [hm k]
  constructor
  · rintro ⟨x, h1, h2, h3, h4⟩
    exact ⟨x, h1, h2, h3, left_off.2 (.inl h4)⟩
  · rintro ⟨x, h1, h2, h3, h4⟩
    rcases left_off.1 h4 with h | h
    · exact ⟨x, h1, h2, h3, h⟩
    · have := srt_key hs h1 hy (h3.trans h)
      subst this
      rw [hp] at h2
      cases h2
theorem ss_more {L : List Al} {p : Al → Bool} {ss : List (List UInt8)} {left : Lit → Bool} {y : Al} (hm : ∀ k, k ∈ ss ↔ ∃ x ∈ L, p x = true ∧ x.kb = k ∧ left (.string k) = false) (hy : y ∈ L) (hp : p y = true) :
    ∀ k, k ∈ ss ++ [y.kb] ↔ ∃ x ∈ L, p x = true ∧ x.kb = k ∧ (left (.string k) && !(Lit.string k).sameKey (.string y.kb)) = false := fun k => by
  rw [List.mem_append, hm k, List.mem_singleton]
  constructor
  · rintro (⟨x, h1, h2, h3, h4⟩ | rfl)
    · exact ⟨x, h1, h2, h3, left_off.2 (.inl h4)⟩
    · exact ⟨y, hy, hp, rfl, left_off.2 (.inr rfl)⟩
  · rintro ⟨x, h1, h2, h3, h4⟩
    rcases left_off.1 h4 with h | h
    · exact .inl ⟨x, h1, h2, h3, h⟩
    · exact .inr h
theorem enc_key (e : Al) : encStr e.kb = .string e.key := by
  unfold Al.kb encStr
  simp
/-- At the head of the loop over the keys. -/
def WR2 (w : World) (M : List Al) (A : Option Addr) (c : Nat) (v i : Value) (wr : World) : Prop :=
  ∃ k : Nat, k ≤ M.length ∧ i = .int .i64 (k : Int) ∧ (∃ B d, v = .slice B k d) ∧ Row wr (fun j => w.heap.size < j ∧ ¬ OwnB A c j) 27 5 v k ((M.take k).map fun e => e.arr.toList).flatten ∧ Row wr (OwnB A c) 9 1 (.slice A M.length c) M.length ((M.map Al.kb).map encStr) ∧ Only Noth w wr
end Go.Proofs.YtokgignmdgejoaaDoor
