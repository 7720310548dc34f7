/- Words on memory, over any program: a block that is known whole, frames by a set of blocks, rows of the call's own, sources, and append onto such a row. -/
import Derived.Test.YtokgignmdgejoaaDoorRows
import Derived.WalkKit
import Derived.Deep.Draws
import Derived.RegionTactic
import Derived.StillTailTactics
namespace Go.Proofs.YtokgignmdgejoaaDoor
open Go.RowKit
set_option linter.unusedVariables false

/-- A region that draws, whose operations but the last ones only read: the world under its name. -/
theorem region_tail {P : Program} {id : Nat} {Q : Exit → Act → World → Prop} {a : Act} {w : World} {l : List Oper} (n : Nat) (hm : P.follows .mixedOrders = true) (hB : Region.lexTailB .any l.toArray n = true)
    (h : wpStill P l.toArray w.drew (fun a' => wpList P l.toArray Q (l.drop n) a' w.drew) (l.take n) a) : (Code.region id l.toArray true).wp P Q a w := wp_region_still_tail n hm hB h

/-- Block g holds the cells cs, of element type t; none is frozen. -/
def Hld (w : World) (g : Nat) (t : TypeId) (cs : Array Value) : Prop := w.heap[g]? = some (.cells cs t (0, 0))

/-- What was there and lies outside F is as it was; tape and streams as well. -/
structure Only (F : Nat → Prop) (w w' : World) : Prop where
  os : w'.os = w.os
  tape : w'.tape = w.tape
  output : w'.output = w.output
  size : w.heap.size ≤ w'.heap.size
  block : ∀ k, k < w.heap.size → ¬ F k → w'.heap[k]? = w.heap[k]?

/-- F, and what is new between two worlds. -/
def Plus (F : Nat → Prop) (w w' : World) : Nat → Prop := fun k => F k ∨ (w.heap.size ≤ k ∧ k < w'.heap.size)
def Noth : Nat → Prop := fun _ => False

section
variable {F G : Nat → Prop} {a b c w w' : World}
theorem Only.refl (F : Nat → Prop) (w : World) : Only F w w := ⟨rfl, rfl, rfl, Nat.le_refl _, fun _ _ _ => rfl⟩
theorem Only.trans (h : Only F a b) (k : Only G b c) (hG : ∀ j, G j → j < a.heap.size → F j) : Only F a c :=
  ⟨k.os.trans h.os, k.tape.trans h.tape, k.output.trans h.output, Nat.le_trans h.size k.size,
    fun j hj hn => (k.block j (Nat.lt_of_lt_of_le hj h.size) (fun hg => hn (hG j hg hj))).trans (h.block j hj hn)⟩
theorem Only.mono (h : Only F a b) (hG : ∀ j, F j → j < a.heap.size → G j) : Only G a b :=
  ⟨h.os, h.tape, h.output, h.size, fun j hj hn => h.block j hj (fun hf => hn (hG j hf hj))⟩
theorem Only.drew (h : Only F a w) : Only F a w.drew := ⟨h.os, h.tape, h.output, h.size, h.block⟩
theorem Only.drewN (h : Only F a w) (n : Nat) : Only F a (w.drewN n) := ⟨h.os, h.tape, h.output, h.size, h.block⟩
theorem Only.alloc (h : Only F a w) (o : Obj) : Only F a (w.alloc o) :=
  ⟨h.os, h.tape, h.output, Nat.le_trans h.size (by simp), fun j hj hn => (Below.heap_alloc w o j (Nat.lt_of_lt_of_le hj h.size)).trans (h.block j hj hn)⟩
theorem Only.setCell (h : Only F a w) {p : Addr} (hp : p.block < a.heap.size → F p.block) (u : Value) : Only F a (w.setCell p u) :=
  ⟨h.os, h.tape, h.output, by simpa [World.setCell] using h.size, fun j hj hn => (Below.heap_setCell w p u j (by rintro rfl; exact hn (hp hj))).trans (h.block j hj hn)⟩
theorem Only.setRow (h : Only F a w) {g : Nat} (hp : g < a.heap.size → F g) (cs : Array Value) : Only F a (w.setRow g cs) :=
  ⟨h.os, h.tape, h.output, by simpa [World.setRow] using h.size, fun j hj hn => (setRow_other w g j cs (by rintro rfl; exact hn (hp hj))).trans (h.block j hj hn)⟩
theorem Only.undrew (h : Only F w.drew w') : Only F w w' := ⟨h.os, h.tape, h.output, h.size, h.block⟩
theorem Only.undrewN {n : Nat} (h : Only F (w.drewN n) w') : Only F w w' := ⟨h.os, h.tape, h.output, h.size, h.block⟩
theorem Only.cell (h : Only F w w') {p : Addr} (hp : p.block < w.heap.size) (hn : ¬ F p.block) : w'.cell? p = w.cell? p := World.cell?_of_block (h.block p.block hp hn)
theorem Only.frozen (h : Only F w w') {p : Addr} (hp : p.block < w.heap.size) (hn : ¬ F p.block) : w'.frozen? p = w.frozen? p := World.frozen?_of_block (h.block p.block hp hn)
theorem Only.below (h : Only F w w') {B : Nat} (hB : B ≤ w.heap.size) (hF : ∀ k, F k → B ≤ k) : Below B w w' :=
  ⟨h.os, h.tape, h.output, h.size, fun k hk => h.block k (by omega) (fun hf => by have := hF k hf; omega)⟩
theorem Only.of_below {B : Nat} (h : Below B w w') : Only (fun k => B ≤ k) w w' :=
  ⟨h.os, h.tape, h.output, h.size, fun k _ hn => h.block k (by omega)⟩
end

section
variable {F : Nat → Prop} {w w' : World} {g : Nat} {t : TypeId} {cs : Array Value}
theorem Hld.lt (h : Hld w g t cs) : g < w.heap.size := by
  unfold Hld at h
  exact (Array.getElem?_eq_some_iff.1 h).1
theorem Hld.cell (h : Hld w g t cs) (i : Nat) : w.cell? ⟨g, i, none⟩ = cs[i]? := cell_of_row w g i cs t (0, 0) h
theorem Hld.free (h : Hld w g t cs) (i : Nat) : w.frozen? ⟨g, i, none⟩ = false := by
  unfold Hld at h
  simp [World.frozen?, h]
theorem Hld.new (w : World) (t : TypeId) (cs : Array Value) : Hld (w.alloc (.cells cs t)) w.heap.size t cs := heap_alloc_new w _
theorem Hld.drew (h : Hld w g t cs) : Hld w.drew g t cs := h
theorem Hld.drewN (h : Hld w g t cs) (n : Nat) : Hld (w.drewN n) g t cs := h
theorem Hld.alloc (h : Hld w g t cs) (o : Obj) : Hld (w.alloc o) g t cs := (Below.heap_alloc w o g h.lt).trans h
theorem Hld.set_ (h : Hld w g t cs) (i : Nat) (u : Value) : Hld (w.setCell ⟨g, i, none⟩ u) g t (cs.setIfInBounds i u) := by
  unfold Hld at h ⊢
  simp [World.setCell, Array.getElem?_modify, h]
theorem Hld.far (h : Hld w g t cs) {p : Addr} (hp : g ≠ p.block) (u : Value) : Hld (w.setCell p u) g t cs := (Below.heap_setCell w p u g hp).trans h
theorem Hld.only (h : Hld w g t cs) (ho : Only F w w') (hn : ¬ F g) : Hld w' g t cs := (ho.block g h.lt hn).trans h
theorem Hld.ne_ {g' : Nat} {t' : TypeId} {cs' : Array Value} (h : Hld w g t cs) (h' : Hld w g' t' cs') (hne : t ≠ t') : g ≠ g' := by
  rintro rfl
  unfold Hld at h h'
  rw [h] at h'
  injection h' with h'
  injection h' with _ ht
  exact hne ht
end

/-- A slice value of the call's own: n elements of e, size cells each, are xs; the row lies in a block of F (unless it has no room at all). -/
def Row (w : World) (F : Nat → Prop) (e : TypeId) (size : Nat) (v : Value) (n : Nat) (xs : List Value) : Prop :=
  xs.length = n * size ∧ ∃ A cap, v = .slice A n cap ∧ n ≤ cap ∧ cap ≤ maxLen ∧
    (cap = 0 ∨ ∃ g cur, A = some ⟨g, 0, none⟩ ∧ F g ∧ w.heap[g]? = some (.cells cur e (0, 0)) ∧ cap * size ≤ cur.size ∧ cur.toList.take (n * size) = xs)

/-- A slice value that can be read: its cells are xs; they lie in a block of S. -/
def Src (w : World) (S : Nat → Prop) (size : Nat) (A : Option Addr) (n : Nat) (xs : List Value) : Prop :=
  xs.length = n * size ∧ (0 < n → ∃ ad, A = some ad ∧ S ad.block ∧ ad.block < w.heap.size ∧ ∀ j u, xs[j]? = some u → w.cell? (ad.add j) = some u)

theorem block_add (a : Addr) (n : Nat) : (a.add n).block = a.block := by unfold Addr.add; split <;> rfl
theorem add_plain' (g o j : Nat) : ((⟨g, o, none⟩ : Addr).add j) = ⟨g, o + j, none⟩ := by unfold Addr.add; split <;> simp_all

section
variable {w w' : World} {F G S : Nat → Prop} {e : TypeId} {size n : Nat} {v : Value} {xs : List Value} {A : Option Addr}
theorem Row.nil (w : World) (F : Nat → Prop) (e : TypeId) (size : Nat) : Row w F e size (.slice none 0 0) 0 [] :=
  ⟨by simp, none, 0, rfl, Nat.le_refl _, Nat.zero_le _, .inl rfl⟩
theorem Row.empty (w : World) (F : Nat → Prop) (e : TypeId) (size : Nat) (A : Option Addr) : Row w F e size (.slice A 0 0) 0 [] :=
  ⟨by simp, A, 0, rfl, Nat.le_refl _, Nat.zero_le _, .inl rfl⟩
theorem Row.only (h : Row w F e size v n xs) (ho : Only G w w') (hFG : ∀ k, F k → ¬ G k) : Row w' F e size v n xs := by
  obtain ⟨hl, A, cap, hv, h1, h2, h3⟩ := h
  refine ⟨hl, A, cap, hv, h1, h2, ?_⟩
  rcases h3 with h3 | ⟨g, cur, hA, hF, hg, hc, ht⟩
  · exact .inl h3
  · exact .inr ⟨g, cur, hA, hF, (ho.block g (Array.getElem?_eq_some_iff.1 hg).1 (hFG g hF)).trans hg, hc, ht⟩
theorem Row.mono (h : Row w F e size v n xs) (hFG : ∀ k, F k → k < w.heap.size → G k) : Row w G e size v n xs := by
  obtain ⟨hl, A, cap, hv, h1, h2, h3⟩ := h
  refine ⟨hl, A, cap, hv, h1, h2, ?_⟩
  rcases h3 with h3 | ⟨g, cur, hA, hF, hg, hc, ht⟩
  · exact .inl h3
  · exact .inr ⟨g, cur, hA, hFG g hF (Array.getElem?_eq_some_iff.1 hg).1, hg, hc, ht⟩
theorem Row.alloc (h : Row w F e size v n xs) (o : Obj) : Row (w.alloc o) F e size v n xs := h.only ((Only.refl Noth w).alloc o) (fun _ _ h => h)
theorem Row.drew (h : Row w F e size v n xs) : Row w.drew F e size v n xs := h
theorem Row.drewN (h : Row w F e size v n xs) (k : Nat) : Row (w.drewN k) F e size v n xs := h
theorem Row.setCell (h : Row w F e size v n xs) {p : Addr} (hp : ¬ F p.block) (u : Value) : Row (w.setCell p u) F e size v n xs :=
  h.only ((Only.refl (fun k => k = p.block) w).setCell (fun _ => rfl) u) (fun k hk hkp => hp (hkp ▸ hk))
theorem Row.shape (h : Row w F e size v n xs) : ∃ A cap, v = .slice A n cap := by
  obtain ⟨_, A, cap, hv, _⟩ := h
  exact ⟨A, cap, hv⟩
theorem Row.len_le (h : Row w F e size v n xs) : n ≤ maxLen := by
  obtain ⟨_, A, cap, _, h1, h2, _⟩ := h
  omega
/-- A row can be read. -/
theorem Row.src {c : Nat} (h : Row w F e size (.slice A n c) n xs) : Src w F size A n xs := by
  obtain ⟨hl, A', cap, hv, h1, h2, h3⟩ := h
  injection hv with e1 e2 e3
  subst e1
  subst e3
  refine ⟨hl, fun hn => ?_⟩
  rcases h3 with h3 | ⟨g, cur, hA, hF, hg, hc, ht⟩
  · omega
  · refine ⟨_, hA, hF, (Array.getElem?_eq_some_iff.1 hg).1, fun j u hu => ?_⟩
    rw [add_plain', Nat.zero_add, cell_of_row w g j cur e (0, 0) hg]
    rw [← ht, List.getElem?_take] at hu
    split at hu
    · simpa using hu
    · cases hu
theorem Src.none_ (w : World) (S : Nat → Prop) (size : Nat) (A : Option Addr) : Src w S size A 0 [] := ⟨by simp, fun h => absurd h (by omega)⟩
theorem Src.only (h : Src w S size A n xs) (ho : Only G w w') (hSG : ∀ k, S k → ¬ G k) : Src w' S size A n xs :=
  ⟨h.1, fun hn => by
    obtain ⟨ad, e, hb, hlt, hc⟩ := h.2 hn
    exact ⟨ad, e, hb, Nat.lt_of_lt_of_le hlt ho.size, fun j u hu => (ho.cell (by rw [block_add]; exact hlt) (by rw [block_add]; exact hSG _ hb)).trans (hc j u hu)⟩⟩
theorem Src.mono (h : Src w S size A n xs) (hSG : ∀ k, S k → k < w.heap.size → G k) : Src w G size A n xs :=
  ⟨h.1, fun hn => by
    obtain ⟨ad, e, hb, hlt, hc⟩ := h.2 hn
    exact ⟨ad, e, hSG _ hb hlt, hlt, hc⟩⟩
theorem Src.alloc (h : Src w S size A n xs) (o : Obj) : Src (w.alloc o) S size A n xs := h.only ((Only.refl Noth w).alloc o) (fun _ _ h => h)
theorem Src.drew (h : Src w S size A n xs) : Src w.drew S size A n xs := h
theorem Src.drewN (h : Src w S size A n xs) (k : Nat) : Src (w.drewN k) S size A n xs := h
theorem Src.setCell (h : Src w S size A n xs) {p : Addr} (hp : ¬ S p.block) (u : Value) : Src (w.setCell p u) S size A n xs :=
  h.only ((Only.refl (fun k => k = p.block) w).setCell (fun _ => rfl) u) (fun k hk hkp => hp (hkp ▸ hk))
theorem Src.take (h : Src w S size A n xs) {k : Nat} (hk : k ≤ n) : Src w S size A k (xs.take (k * size)) := by
  have hle : k * size ≤ n * size := Nat.mul_le_mul_right _ hk
  refine ⟨by rw [List.length_take, h.1]; omega, fun hn => ?_⟩
  obtain ⟨ad, e, hb, hlt, hc⟩ := h.2 (by omega)
  refine ⟨ad, e, hb, hlt, fun j u hu => hc j u ?_⟩
  rw [List.getElem?_take] at hu
  split at hu
  · exact hu
  · cases hu
theorem Row.cutAt (h : Row w F e size v n xs) {k : Nat} (hk : k ≤ n) : ∃ A c, v = .slice A n c ∧ Row w F e size (.slice A k k) k (xs.take (k * size)) := by
  have hle : k * size ≤ n * size := Nat.mul_le_mul_right _ hk
  obtain ⟨hl, A, cap, hv, h1, h2, h3⟩ := h
  refine ⟨A, cap, hv, by rw [List.length_take, hl]; omega, A, k, rfl, Nat.le_refl _, by omega, ?_⟩
  rcases h3 with h3 | ⟨g, cur, hA, hF, hg, hc, ht⟩
  · exact .inl (by omega)
  · refine .inr ⟨g, cur, hA, hF, hg, Nat.le_trans (Nat.mul_le_mul_right _ (by omega)) hc, ?_⟩
    rw [← ht, List.take_take]
    congr 1
    omega
theorem Row.take (h : Row w F e size v n xs) {k : Nat} (hk : k ≤ n) : ∃ A c, v = .slice A n c ∧ Row w F e size (.slice A k c) k (xs.take (k * size)) := by
  have hle : k * size ≤ n * size := Nat.mul_le_mul_right _ hk
  obtain ⟨hl, A, cap, hv, h1, h2, h3⟩ := h
  refine ⟨A, cap, hv, by rw [List.length_take, hl]; omega, A, cap, rfl, by omega, h2, ?_⟩
  rcases h3 with h3 | ⟨g, cur, hA, hF, hg, hc, ht⟩
  · exact .inl h3
  · refine .inr ⟨g, cur, hA, hF, hg, hc, ?_⟩
    rw [← ht, List.take_take]
    congr 1
    omega
end

section
variable {P : Program} (w : World)

theorem run_append_row (t ty e : TypeId) (i : TypeInfo) (z : Value) (size bytes : Nat) (ht : P.underlying t = some (.slice e)) (hi : P.info? e = some i) (hz : i.zero = some z)
    (hsize : i.size = size) (hby : i.bytes = bytes) (hzs : z.cells.size = size)
    (F S : Nat → Prop) (v : Value) (n : Nat) (xs : List Value) (hrow : Row w F e size v n xs)
    (A : Option Addr) (m c : Nat) (news : List Value) (hs : Src w S size A m news) (h1 : ∀ u ∈ news, u.oneCell' = true)
    (h63 : n + m ≤ maxLen) (hbytes : (n + m) * bytes ≤ 140737488355328) :
    ∃ v' w', (Builtin.append_ #[t, t] ty #[v, .slice A m c]).run P w = .ok v' w' ∧ Row w' (Plus F w w') e size v' (n + m) (xs ++ news) ∧ Only F w w' ∧ w'.heap.size ≤ w.heap.size + 1 := by
  subst hsize
  subst hby
  have hlen : (xs ++ news).length = (n + m) * i.size := by rw [List.length_append, hrow.1, hs.1, Nat.add_mul]
  by_cases hm : m = 0
  · subst hm
    have hn0 : news = [] := List.eq_nil_of_length_eq_zero (by simpa using hs.1)
    subst hn0
    have hrow0 := hrow
    obtain ⟨hl, B, cap, rfl, hc1, hc2, hc3⟩ := hrow
    have hst : ∀ a : Addr, (storeCells a []).run P w = .ok () w := fun a => rfl
    refine ⟨.slice B n cap, w, ?_, by rw [Nat.add_zero, List.append_nil]; exact hrow0.mono (fun _ hk _ => Or.inl hk), Only.refl _ _, Nat.le_succ _⟩
    cases A with
    | none => cases B <;> simp [Builtin.append_, run_underlying ht, sizeOf, typeInfo, hi, Builtin.lenOf, Builtin.firstCells, hc1, hst]
    | some ad =>
      have hld : (loadCells ad 0).run P w = .ok #[] w := run_loadCells_list (P := P) w ad [] (by simp)
      cases B <;> simp [Builtin.append_, run_underlying ht, sizeOf, typeInfo, hi, Builtin.lenOf, Builtin.firstCells, hc1, hst, hld]
  · obtain ⟨ad, rfl, _, _, hnews⟩ := hs.2 (by omega)
    obtain ⟨hl, B, cap, rfl, hc1, hc2, hc3⟩ := hrow
    have grown : ∀ (old : Nat), old < n + m →
        Row (w.drew.alloc (.cells (xs.toArray ++ news.toArray ++ Builtin.zeroCells z.cells (grownCap w (n + m) old e - (n + m))) e)) (fun k => k = w.heap.size) e i.size
          (.slice (some ⟨w.heap.size, 0, none⟩) (n + m) (grownCap w (n + m) old e)) (n + m) (xs ++ news) := by
      intro old ho
      have hge := grownCap_ge w (n + m) old e
      have hcm : grownCap w (n + m) old e ≤ maxLen := grownCap_le_maxLen w (n + m) old e h63
      refine ⟨hlen, _, _, rfl, hge, hcm, .inr ⟨w.heap.size, _, rfl, rfl, heap_alloc_new w.drew _, ?_, ?_⟩⟩
      · simp only [Array.size_append, List.size_toArray, size_zeroCells, hzs, hl, hs.1, ← Nat.add_mul]
        apply Nat.le_of_eq
        congr 1
        omega
      · simp only [Array.toList_append, List.append_assoc]
        rw [← List.append_assoc, ← hlen]
        exact List.take_left
    have fin : ∀ (old : Nat), old < n + m → ∀ v' : Value, v' = .slice (some ⟨w.heap.size, 0, none⟩) (n + m) (grownCap w (n + m) old e) → ∀ w' : World,
        w' = w.drew.alloc (.cells (xs.toArray ++ news.toArray ++ Builtin.zeroCells z.cells (grownCap w (n + m) old e - (n + m))) e) →
        Row w' (Plus F w w') e i.size v' (n + m) (xs ++ news) ∧ Only F w w' ∧ w'.heap.size ≤ w.heap.size + 1 := by
      rintro old ho v' rfl w' rfl
      refine ⟨(grown old ho).mono (fun k hk _ => Or.inr ?_), ((Only.refl F w).drew).alloc _, by simp⟩
      subst hk
      exact ⟨Nat.le_refl _, by simp⟩
    rcases hc3 with hc3 | ⟨g, cur, rfl, hF, hg, hcs, htake⟩
    · obtain rfl : n = 0 := by omega
      subst hc3
      have hx : xs = [] := List.eq_nil_of_length_eq_zero (by simpa using hl)
      subst hx
      cases B with
      | none =>
        have hr := run_append_nil (P := P) w t ty e i z ht hi hz ad m c news hs.1 hnews (by omega) (by simp only [maxLen] at h63; omega) (by have hb := hbytes; simp only [Nat.zero_add] at hb; omega)
        refine ⟨_, _, hr, ?_⟩
        have := fin 0 (by omega) _ rfl _ rfl
        simp only [Nat.zero_add] at this ⊢
        simpa using this
      | some bd =>
        have hr := run_append_grow (P := P) w t ty e i z ht hi hz bd 0 0 [] (by simp) (by simp) ad m c news hs.1 hnews (by omega) (by simp only [maxLen] at h63; omega) (growslice_fits (by omega) hbytes)
        exact ⟨_, _, hr, fin 0 (by omega) _ rfl _ rfl⟩
    · by_cases hroom : n + m ≤ cap
      · have hfit : n * i.size + news.length ≤ cur.size := by
          rw [hs.1, ← Nat.add_mul]
          exact Nat.le_trans (Nat.mul_le_mul_right _ hroom) hcs
        have hr := run_append_room (P := P) w t ty e i ht hi g n cap cur hg ad m c news hs.1 hnews h1 hroom hfit
        refine ⟨_, _, hr, ⟨hlen, _, _, rfl, hroom, hc2, .inr ⟨g, _, rfl, .inl hF, setRow_heap w g cur _ e _ hg, ?_, ?_⟩⟩, (Only.refl F w).setRow (fun _ => hF) _, by simp [World.setRow]⟩
        · simp only [List.size_toArray, List.length_append, List.length_take, List.length_drop, Array.length_toList]
          omega
        · rw [htake, ← hlen]
          exact List.take_left
      · have holds : ∀ j u, xs[j]? = some u → w.cell? ((⟨g, 0, none⟩ : Addr).add j) = some u := by
          intro j u hu
          rw [add_plain', Nat.zero_add, cell_of_row w g j cur e (0, 0) hg]
          rw [← htake, List.getElem?_take] at hu
          split at hu
          · simpa using hu
          · cases hu
        have hr := run_append_grow (P := P) w t ty e i z ht hi hz ⟨g, 0, none⟩ n cap xs hl holds ad m c news hs.1 hnews (by omega) (by simp only [maxLen] at h63; omega) (growslice_fits (by omega) hbytes)
        exact ⟨_, _, hr, fin cap (by omega) _ rfl _ rfl⟩

theorem wp_append_row {o : Oper} {a : Act} {K : Act → World → Prop} {Q : Exit → Act → World → Prop} (s x : Operand) (t : TypeId)
    (ho : o.op = .call { callee := .builtin .append, args := #[s, x], argTypes := #[t, t] })
    (e : TypeId) (i : TypeInfo) (z : Value) (size bytes : Nat) (ht : P.underlying t = some (.slice e)) (hi : P.info? e = some i) (hz : i.zero = some z)
    (hsize : i.size = size) (hby : i.bytes = bytes) (hzs : z.cells.size = size)
    (F S : Nat → Prop) (v : Value) (n : Nat) (xs : List Value) (hv : a.eval s = v) (hrow : Row w F e size v n xs)
    (A : Option Addr) (m c : Nat) (news : List Value) (hx : a.eval x = .slice A m c) (hs : Src w S size A m news) (h1 : ∀ u ∈ news, u.oneCell' = true)
    (h63 : n + m ≤ maxLen) (hbytes : (n + m) * bytes ≤ 140737488355328)
    (h : ∀ v' w', Row w' (Plus F w w') e size v' (n + m) (xs ++ news) → Only F w w' → w'.heap.size ≤ w.heap.size + 1 → K (a.put o.dst v') w') : o.wp P a w K Q := by
  obtain ⟨v', w', hr, h2, h3, h4⟩ := run_append_row (P := P) w t o.type e i z size bytes ht hi hz hsize hby hzs F S v n xs hrow A m c news hs h1 h63 hbytes
  unfold Oper.wp execOp
  simp only [ho, resolve, invoke, builtin, Sem.run_bind, Sem.run_pure, Result.andThen_ok, List.map_toArray, List.map_cons, List.map_nil, hv, hx, hr]
  exact h v' w' h2 h3 h4

theorem wpList_append_row {ops : Array Oper} {rest : List Oper} {o : Oper} {a : Act} {Q : Exit → Act → World → Prop} (hgd : o.guard = none) (s x : Operand) (t : TypeId)
    (ho : o.op = .call { callee := .builtin .append, args := #[s, x], argTypes := #[t, t] })
    (e : TypeId) (i : TypeInfo) (z : Value) (size bytes : Nat) (ht : P.underlying t = some (.slice e)) (hi : P.info? e = some i) (hz : i.zero = some z)
    (hsize : i.size = size) (hby : i.bytes = bytes) (hzs : z.cells.size = size)
    (F S : Nat → Prop) (v : Value) (n : Nat) (xs : List Value) (hv : a.eval s = v) (hrow : Row w F e size v n xs)
    (A : Option Addr) (m c : Nat) (news : List Value) (hx : a.eval x = .slice A m c) (hs : Src w S size A m news) (h1 : ∀ u ∈ news, u.oneCell' = true)
    (h63 : n + m ≤ maxLen) (hbytes : (n + m) * bytes ≤ 140737488355328)
    (h : ∀ v' w', Row w' (Plus F w w') e size v' (n + m) (xs ++ news) → Only F w w' → w'.heap.size ≤ w.heap.size + 1 → wpList P ops Q rest (a.put o.dst v') w') : wpList P ops Q (o :: rest) a w :=
  wpList_plain hgd fun _ hK => wp_append_row w s x t ho e i z size bytes ht hi hz hsize hby hzs F S v n xs hv hrow A m c news hx hs h1 h63 hbytes fun v' w' h2 h3 h4 => hK _ _ (h v' w' h2 h3 h4)

theorem step_append_row {ops : Array Oper} {o : Oper} {a : Act} {K : Act → World → Prop} {Q : Exit → Act → World → Prop} {E : Prop} (hgd : o.guard = none) (s x : Operand) (t : TypeId)
    (ho : o.op = .call { callee := .builtin .append, args := #[s, x], argTypes := #[t, t] })
    (e : TypeId) (i : TypeInfo) (z : Value) (size bytes : Nat) (ht : P.underlying t = some (.slice e)) (hi : P.info? e = some i) (hz : i.zero = some z)
    (hsize : i.size = size) (hby : i.bytes = bytes) (hzs : z.cells.size = size)
    (F S : Nat → Prop) (v : Value) (n : Nat) (xs : List Value) (hv : a.eval s = v) (hrow : Row w F e size v n xs)
    (A : Option Addr) (m c : Nat) (news : List Value) (hx : a.eval x = .slice A m c) (hs : Src w S size A m news) (h1 : ∀ u ∈ news, u.oneCell' = true)
    (h63 : n + m ≤ maxLen) (hbytes : (n + m) * bytes ≤ 140737488355328)
    (h : ∀ v' w', Row w' (Plus F w w') e size v' (n + m) (xs ++ news) → Only F w w' → w'.heap.size ≤ w.heap.size + 1 → K (a.put o.dst v') w') :
    if Region.wanted o (yielded ops a.tmps) = true then Oper.wp P o a w K Q else E := by
  have hw : Region.wanted o (yielded ops a.tmps) = true := by simp [Region.wanted, hgd]
  rw [if_pos hw]
  exact wp_append_row w s x t ho e i z size bytes ht hi hz hsize hby hzs F S v n xs hv hrow A m c news hx hs h1 h63 hbytes h
end

section
variable {P : Program}
theorem run_storeVar_whole (w : World) (g : Nat) (t ty : TypeId) (cs cs' : Array Value) (hg : Hld w g t cs) (hs : cs'.size = cs.size) (h1 : ∀ v ∈ cs'.toList, v.oneCell' = true) (hi : (P.info? ty).map (·.size) = some cs'.size) :
    (storeVar ty ⟨g, 0, none⟩ (.agg cs')).run P w = .ok () (w.setRow g cs') := by
  have hst := run_storeCells_at P g 0 t cs'.toList 0 cs w hg (by simp; omega) h1
  have e : (cs.toList.take (0 + 0) ++ cs'.toList ++ cs.toList.drop (0 + 0 + cs'.toList.length)).toArray = cs' := by
    have hd : cs.toList.drop (0 + 0 + cs'.toList.length) = [] := List.drop_eq_nil_of_le (by simp; omega)
    rw [hd]
    simp
  rw [e] at hst
  cases hq : P.info? ty with
  | none => simp [hq] at hi
  | some i =>
    have hsz : i.size = cs'.size := by simpa [hq] using hi
    simp only [storeVar]
    have hc : (Value.agg cs').cells = cs' := rfl
    rw [hc]
    simp [sizeOf, typeInfo, hq, hsz, hst]

/-- A whole struct stored into a block that is known whole. -/
theorem wpList_store_whole {ops : Array Oper} {rest : List Oper} {o : Oper} {a : Act} {w : World} {Q : Exit → Act → World → Prop} (hgd : o.guard = none) (hdst : o.dst = none) (ty : TypeId) (x y : Operand) (ho : o.op = .store ty x y)
    (g : Nat) (hx : a.eval x = .pointer (some ⟨g, 0, none⟩)) (cs' : Array Value) (hy : a.eval y = .agg cs') (t : TypeId) (cs : Array Value) (hg : Hld w g t cs) (hs : cs'.size = cs.size) (h1 : ∀ v ∈ cs'.toList, v.oneCell' = true) (hi : (P.info? ty).map (·.size) = some cs'.size)
    (h : ∀ w', Hld w' g t cs' → Only (fun k => k = g) w w' → w'.heap.size = w.heap.size → wpList P ops Q rest a w') : wpList P ops Q (o :: rest) a w := by
  refine wpList_plain hgd fun K hK => ?_
  unfold Oper.wp execOp
  have hp : ∀ v, a.put none v = a := fun _ => rfl
  simp only [ho, hx, hy, Instr.storeAt, Instr.sureAddr, Sem.run_bind, Sem.run_pure, Result.andThen_ok, run_storeVar_whole w g t ty cs cs' hg hs h1 hi]
  have hz : (w.setRow g cs').heap.size = w.heap.size := by simp [World.setRow]
  have hh : Hld (w.setRow g cs') g t cs' := setRow_heap w g cs cs' t (0, 0) hg
  have := hK _ _ (h _ hh ((Only.refl (fun k => k = g) w).setRow (fun _ => rfl) cs') hz)
  simpa [Oper.upon, hdst, hp] using this
end
/-- What is new since a world. -/
def New (w : World) : Nat → Prop := fun k => w.heap.size ≤ k
theorem Only.tr {a b c : World} {F : Nat → Prop} (h : Only F a b) (k : Only Noth b c) : Only F a c := h.trans k (fun _ h _ => h.elim)
theorem ret_bool {a b : Bool} (h : a = b) : Ending.returned (.bool a) = .returned (.bool b) := by rw [h]
end Go.Proofs.YtokgignmdgejoaaDoor
