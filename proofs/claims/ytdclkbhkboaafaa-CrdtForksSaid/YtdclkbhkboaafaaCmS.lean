/- Keys that are sorted; rows of strings; a range beside other memory. -/
import Derived.Test.YtdclkbhkboaafaaCmPut
import Derived.Sort.OwnSorted
import Derived.Sort.KeysCollected
namespace Go.Proofs.Ytdclkbhkboaafaa
open Go.RowKit Go.Lib Go.Sort
set_option linter.unusedVariables false
set_option linter.unusedSimpArgs false
set_option maxRecDepth 100000
attribute [local go_sem ↓] Go.wp_at_zero Go.wp_at_succ

/-- A row, its own block alone. -/
def OwnB (A : Option Addr) (c : Nat) : Nat → Prop := fun k => c ≠ 0 ∧ A = some ⟨k, 0, none⟩
theorem Row.tight {w : World} {F : Nat → Prop} {e : TypeId} {size n c : Nat} {A : Option Addr} {xs : List Value} (h : Row w F e size (.slice A n c) n xs) : Row w (OwnB A c) e size (.slice A n c) n xs ∧ ∀ k, OwnB A c k → F k ∧ ∃ cur, w.heap[k]? = some (.cells cur e (0, 0)) := by
  obtain ⟨hl, A', cap, hv, h1, h2, h3⟩ := h
  injection hv with e1 e2 e3
  subst e1
  subst e3
  rcases h3 with h3 | ⟨g, cur, hA, hF, hg, hc, ht⟩
  · exact ⟨⟨hl, A, c, rfl, h1, h2, .inl h3⟩, fun k hk => absurd h3 hk.1⟩
  · by_cases hc0 : c = 0
    · exact ⟨⟨hl, A, c, rfl, h1, h2, .inl hc0⟩, fun k hk => absurd hc0 hk.1⟩
    · refine ⟨⟨hl, A, c, rfl, h1, h2, .inr ⟨g, cur, hA, ⟨hc0, hA⟩, hg, hc, ht⟩⟩, fun k hk => ?_⟩
      have := hk.2
      rw [hA] at this
      injection this with this
      injection this with this
      subst this
      exact ⟨hF, cur, hg⟩
theorem Hld.src {w : World} {g : Nat} {t : TypeId} {cs : Array Value} (h : Hld w g t cs) (n : Nat) (hn : cs.size = n) : Src w (fun k => k < w.heap.size) 1 (some ⟨g, 0, none⟩) n cs.toList := by
  refine ⟨by simp [hn], fun _ => ⟨_, rfl, h.lt, h.lt, fun j u hu => ?_⟩⟩
  rw [add_plain', Nat.zero_add, h.cell j]
  simpa using hu
theorem Src.regroup {w : World} {S : Nat → Prop} {A : Option Addr} {n : Nat} {xs : List Value} (hn : 0 < n) (h : Src w S 1 A n xs) : Src w S n A 1 xs :=
  ⟨by have := h.1; omega, fun _ => h.2 hn⟩
theorem lt_before : ∀ {a b : List UInt8}, a < b → bytesBefore a b = true := by
  intro a b h
  induction h with
  | nil => rfl
  | rel h => simp only [bytesBefore, Bool.or_eq_true, decide_eq_true_eq]; exact .inl h
  | cons h ih => simp only [bytesBefore, beq_self_eq_true, Bool.true_and, Bool.or_eq_true]; exact .inr ih
theorem before_le {a b : List UInt8} (h : bytesBefore a b = true) : a ≤ b := by
  intro hlt
  have := before_anti h
  rw [lt_before hlt] at this
  cases this
theorem srt_kbs {L : List Ent} (h : Srt L) : (L.map Ent.kb).Nodup := by
  refine List.pairwise_map.2 (h.imp fun {a b} hab => before_ne hab)
/-- The keys that were collected, sorted. -/
theorem sort_keys {L : List Ent} {p : Ent → Bool} {ss : List (List UInt8)} (hs : Srt L) (hnd : ss.Nodup) (hm : ∀ k, k ∈ ss ↔ ∃ e ∈ L, p e = true ∧ e.kb = k) : ss.mergeSort (fun x y => decide (x ≤ y)) = (L.filter p).map Ent.kb := by
  have hp : ss.Perm ((L.filter p).map Ent.kb) := by
    refine (List.perm_ext_iff_of_nodup hnd (srt_kbs (filter_srt p hs))).2 fun k => ?_
    rw [hm k, List.mem_map]
    constructor
    · rintro ⟨e, h1, h2, h3⟩
      exact ⟨e, List.mem_filter.2 ⟨h1, h2⟩, h3⟩
    · rintro ⟨e, h1, h3⟩
      obtain ⟨h1, h2⟩ := List.mem_filter.1 h1
      exact ⟨e, h1, h2, h3⟩
  have h1 := mergeSort_of_perm hp
  have h2 : ((L.filter p).map Ent.kb).Pairwise (fun a b => leB a b = true) := by
    refine List.pairwise_map.2 ((filter_srt p hs).imp fun {a b} hab => ?_)
    simp only [leB, decide_eq_true_eq]
    exact before_le hab
  exact h1.trans (List.mergeSort_of_pairwise h2)
theorem sort_row (A : Option Addr) (c : Nat) (ss : List (List UInt8)) (w : World) (F : Nat → Prop) (hr : Row w F 9 1 (.slice A ss.length c) ss.length (ss.map encStr)) (hz : ss.length < 4611686018427387904) :
    Calls Try.prog 50 #[.slice A ss.length c] w fun e w' => e = .returned (.tuple #[]) ∧ Row w' F 9 1 (.slice A ss.length c) ss.length ((ss.mergeSort fun x y => decide (x ≤ y)).map encStr) ∧ Only (OwnB A c) w w' := by
  rcases Nat.eq_zero_or_pos ss.length with h0 | h0
  · have hss : ss = [] := List.eq_nil_of_length_eq_zero h0
    subst hss
    refine (Try.slices_Sort_string_none A c w).mono ?_
    rintro e w' ⟨rfl, rfl⟩
    exact ⟨rfl, by simpa using hr, Only.refl _ _⟩
  · obtain ⟨hl, A', cap, hv, h1, h2, h3⟩ := hr
    injection hv with e1 _ e3
    subst e1 e3
    rcases h3 with h3 | ⟨g, cur, rfl, hF, hg, hc, ht⟩
    · omega
    · have hH : Holds encStr w g 0 ss.toArray := holds_of_block hg (by simpa using ht)
      refine (Try.slices_Sort_string g 0 c ss w hH (Array.getElem?_eq_some_iff.1 hg).1 hz).mono ?_
      rintro e w' ⟨rfl, n, os, rfl⟩
      have hts : (ss.mergeSort fun x y => decide (x ≤ y)).length = ss.length := List.length_mergeSort _
      refine ⟨rfl, ⟨by simp [hts], _, _, rfl, h1, h2, .inr ⟨g, _, rfl, hF, heap_sorted _ hg, by simpa [putCells] using hc, ?_⟩⟩, ?_⟩
      · rw [Nat.mul_one, ← hts]
        exact take_putCells cur _ (by rw [hts]; omega)
      · have hgw := grownBy_sorted (w := w) (g := g) (n := n) (os := os) (ss.mergeSort fun x y => decide (x ≤ y)).toArray
        exact ⟨hgw.os, hgw.tape, hgw.output, hgw.size, fun i hi hn => hgw.block i hi (fun e => hn ⟨by omega, by rw [Option.some.inj e]⟩)⟩
theorem ranges_only {w w' : World} {F : Nat → Prop} {b r n cnt : Nat} {D : DataW Unit} {left : Lit → Bool} (h : w.ranges Try.prog 9 entElem b r n D left cnt) (ho : Only F w w') (hb : ¬ F b) (hr : ¬ F r) : w'.ranges Try.prog 9 entElem b r n D left cnt := by
  obtain ⟨es, clock, since, seen, c0, h1, h2, h3, h4, h5, h6⟩ := h
  exact ⟨es, clock, since, seen, c0, (ho.block b (Array.getElem?_eq_some_iff.1 h1).1 hb).trans h1, h2, h3, h4, (ho.block r (Array.getElem?_eq_some_iff.1 h5).1 hr).trans h5, h6⟩
theorem only_grown0 {w w' : World} (h : w.grownBy w' none) : Only Noth w w' := ⟨h.os, h.tape, h.output, h.size, fun i hi _ => h.block i hi (by simp)⟩
theorem inv_key : ∀ (key : Value) (kl : Lit), keyOf Try.prog 9 key = some kl → ∃ x : List UInt8, key = encStr x := fun key kl hk => by
  obtain ⟨x, hx, _⟩ := Maps.keyOf_str Try.underlying9 hk
  exact ⟨x, hx⟩
theorem inv_ent : ∀ (v : Value) (y : DataW Unit × List MemPlace), entElem v = some y → ∃ c : Ent, v = .agg c.arr := fun v y h => by
  obtain ⟨e, he, _⟩ := entElem_inv h
  exact ⟨e, he⟩
/-- An entry that the range has met. -/
theorem met {L : List Ent} {x : List UInt8} {c : Ent} {kl : Lit} {yd : DataW Unit} {yp : List MemPlace} (hkey : keyOf Try.prog 9 (encStr x) = some kl) (hv : entElem (.agg c.arr) = some (yd, yp)) (hat : ∀ zd, (mapD L).atKey kl zd = yd) : kl = .string x ∧ cget x L = some c := by
  obtain ⟨x', ex, rfl, _⟩ := Maps.keyOf_str Try.underlying9 hkey
  obtain rfl : x = x' := encStr_inj ex
  refine ⟨rfl, ?_⟩
  rw [entElem_mk] at hv
  injection hv with hv
  injection hv with hv _
  cases hg : cget x L with
  | none =>
    have h1 := hat (entD c)
    have h2 := hat .nil
    rw [get_map, hg] at h1 h2
    simp only at h1 h2
    rw [← h2] at hv
    cases hv
  | some d =>
    have h1 := hat .nil
    rw [get_map, hg] at h1
    simp only at h1
    rw [entD_inj (h1.trans hv.symm)]
/-- At the head of the loop over the map. -/
def WR1 (w : World) (b : Nat) (L : List Ent) (p : Ent → Bool) (v : Value) (wr : World) : Prop :=
  ∃ (left : Lit → Bool) (cnt : Nat) (ss : List (List UInt8)), wr.ranges Try.prog 9 entElem b w.heap.size L.length (mapD L) left cnt ∧ (∃ A c, v = .slice A ss.length c) ∧ Row wr (fun k => w.heap.size < k) 9 1 v ss.length (ss.map encStr) ∧
    ss.Nodup ∧ (∀ k, k ∈ ss ↔ ∃ x ∈ L, p x = true ∧ x.kb = k ∧ left (.string k) = false) ∧ Only Noth w wr ∧ ss.length + cnt ≤ L.length
theorem left_off {left : Lit → Bool} {k y : List UInt8} : (left (.string k) && !(Lit.string k).sameKey (.string y)) = false ↔ left (.string k) = false ∨ k = y := by
  have : (Lit.string k).sameKey (.string y) = (k == y) := rfl
  rw [this]
  by_cases h : k = y
  · simp [h]
  · have : (k == y) = false := by simpa using h
    simp [this, h]
theorem ss_stay {L : List Ent} {p : Ent → Bool} {ss : List (List UInt8)} {left : Lit → Bool} {y : Ent} (hs : Srt L) (hm : ∀ k, k ∈ ss ↔ ∃ x ∈ L, p x = true ∧ x.kb = k ∧ left (.string k) = false) (hy : y ∈ L) (hp : p y = false) :
    ∀ k, k ∈ ss ↔ ∃ x ∈ L, p x = true ∧ x.kb = k ∧ (left (.string k) && !(Lit.string k).sameKey (.string y.kb)) = false := fun k => by
  rw [hm k]
  constructor
  · rintro ⟨x, h1, h2, h3, h4⟩
    exact ⟨x, h1, h2, h3, left_off.2 (.inl h4)⟩
  · rintro ⟨x, h1, h2, h3, h4⟩
    rcases left_off.1 h4 with h | h
    · exact ⟨x, h1, h2, h3, h⟩
    · have := srt_key hs h1 hy (h3.trans h)
      subst this
      rw [hp] at h2
      cases h2
theorem ss_more {L : List Ent} {p : Ent → Bool} {ss : List (List UInt8)} {left : Lit → Bool} {y : Ent} (hm : ∀ k, k ∈ ss ↔ ∃ x ∈ L, p x = true ∧ x.kb = k ∧ left (.string k) = false) (hy : y ∈ L) (hp : p y = true) :
    ∀ k, k ∈ ss ++ [y.kb] ↔ ∃ x ∈ L, p x = true ∧ x.kb = k ∧ (left (.string k) && !(Lit.string k).sameKey (.string y.kb)) = false := fun k => by
  rw [List.mem_append, hm k, List.mem_singleton]
  constructor
  · rintro (⟨x, h1, h2, h3, h4⟩ | rfl)
    · exact ⟨x, h1, h2, h3, left_off.2 (.inl h4)⟩
    · exact ⟨y, hy, hp, rfl, left_off.2 (.inr rfl)⟩
  · rintro ⟨x, h1, h2, h3, h4⟩
    rcases left_off.1 h4 with h | h
    · exact .inl ⟨x, h1, h2, h3, h⟩
    · exact .inr h
theorem ent_small {e : Ent} (h : e.check = 0) : e.key.size ≤ 1024 ∧ e.val.size ≤ 8192 := by
  unfold Ent.check at h
  split at h
  · exact absurd h (by decide)
  · omega
theorem enc_key (e : Ent) : encStr e.kb = .string e.key := by
  unfold Ent.kb encStr
  simp
/-- At the head of the loop over the keys. -/
def WR2 (w : World) (M : List Ent) (A : Option Addr) (c : Nat) (v i : Value) (wr : World) : Prop :=
  ∃ k : Nat, k ≤ M.length ∧ i = .int .i64 (k : Int) ∧ (∃ B d, v = .slice B k d) ∧ Row wr (fun j => w.heap.size < j ∧ ¬ OwnB A c j) 34 5 v k ((M.take k).map fun e => e.arr.toList).flatten ∧ Row wr (OwnB A c) 9 1 (.slice A M.length c) M.length ((M.map Ent.kb).map encStr) ∧ Only Noth w wr
end Go.Proofs.Ytdclkbhkboaafaa
