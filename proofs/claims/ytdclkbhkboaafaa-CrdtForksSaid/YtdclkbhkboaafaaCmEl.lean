/- Lists of entries in memory; whether two are one. -/
import Derived.Test.YtdclkbhkboaafaaCmWhich
namespace Go.Proofs.Ytdclkbhkboaafaa
open Go.RowKit Go.Lib Go.Sort
set_option linter.unusedVariables false
set_option linter.unusedSimpArgs false
set_option maxRecDepth 100000
attribute [local go_sem ↓] Go.wp_at_zero Go.wp_at_succ

abbrev Ent.cl (e : Ent) : List Value := [.string e.key, .int .i64 e.time, .int .u16 e.org, .string e.val, .int .i64 e.til]
/-- Elements of some cells each lie one behind the other, in a block of S. -/
def ElAt (w : World) (S : Nat → Prop) (size : Nat) (A : Option Addr) (xs : List (List Value)) : Prop :=
  0 < xs.length → ∃ b o, A = some ⟨b, o, none⟩ ∧ S b ∧ b < w.heap.size ∧ ∀ (k : Nat) cs, xs[k]? = some cs → ∀ (j : Nat) v, cs[j]? = some v → w.cell? ⟨b, o + k * size + j, none⟩ = some v
theorem ElAt.only {w w' : World} {S F : Nat → Prop} {size : Nat} {A : Option Addr} {xs : List (List Value)} (h : ElAt w S size A xs) (ho : Only F w w') (hSF : ∀ k, S k → ¬ F k) : ElAt w' S size A xs := fun hn => by
  obtain ⟨b, o, hA, hS, hlt, hc⟩ := h hn
  exact ⟨b, o, hA, hS, Nat.lt_of_lt_of_le hlt ho.size, fun k cs hk j v hv => (ho.cell (p := ⟨b, o + k * size + j, none⟩) hlt (hSF b hS)).trans (hc k cs hk j v hv)⟩
theorem ElAt.noth {w w' : World} {S : Nat → Prop} {size : Nat} {A : Option Addr} {xs : List (List Value)} (h : ElAt w S size A xs) (ho : Only Noth w w') : ElAt w' S size A xs := h.only ho (fun _ _ h => h)
theorem ElAt.mono {w : World} {S S' : Nat → Prop} {size : Nat} {A : Option Addr} {xs : List (List Value)} (h : ElAt w S size A xs) (hS : ∀ k, S k → k < w.heap.size → S' k) : ElAt w S' size A xs := fun hn => by
  obtain ⟨b, o, hA, h1, hlt, hc⟩ := h hn
  exact ⟨b, o, hA, hS b h1 hlt, hlt, hc⟩
/-- A member's, an entry's cells. -/
theorem ElAt.ent {w : World} {S : Nat → Prop} {A : Option Addr} {es : List Ent} (h : ElAt w S 5 A (es.map Ent.cl)) {k : Nat} {e : Ent} (hk : es[k]? = some e) :
    ∃ b o, A = some ⟨b, o, none⟩ ∧ S b ∧ b < w.heap.size ∧ w.cell? ⟨b, o + k * 5, none⟩ = some (.string e.key) ∧ w.cell? ⟨b, o + k * 5 + 1, none⟩ = some (.int .i64 e.time) ∧ w.cell? ⟨b, o + k * 5 + 2, none⟩ = some (.int .u16 e.org) ∧ w.cell? ⟨b, o + k * 5 + 3, none⟩ = some (.string e.val) ∧ w.cell? ⟨b, o + k * 5 + 4, none⟩ = some (.int .i64 e.til) := by
  have hlt := (List.getElem?_eq_some_iff.1 hk).1
  obtain ⟨b, o, hA, hS, hb, hc⟩ := h (by rw [List.length_map]; omega)
  have hc := hc k e.cl (by rw [List.getElem?_map, hk]; rfl)
  exact ⟨b, o, hA, hS, hb, hc 0 _ rfl, hc 1 _ rfl, hc 2 _ rfl, hc 3 _ rfl, hc 4 _ rfl⟩
theorem flat_get {size : Nat} {xs : List (List Value)} (hs : ∀ x ∈ xs, x.length = size) {k r : Nat} {cs : List Value} {u : Value} (hk : xs[k]? = some cs) (hr : cs[r]? = some u) : xs.flatten[k * size + r]? = some u := by
  induction xs generalizing k with
  | nil => simp at hk
  | cons a t ih =>
    have ha := hs a (by simp)
    cases k with
    | zero =>
      simp only [List.getElem?_cons_zero, Option.some.injEq] at hk
      subst hk
      rw [List.flatten_cons, Nat.zero_mul, Nat.zero_add, List.getElem?_append_left (List.getElem?_eq_some_iff.1 hr).1]
      exact hr
    | succ k =>
      rw [List.flatten_cons, Nat.succ_mul, List.getElem?_append_right (by omega), show k * size + size + r - a.length = k * size + r by omega]
      exact ih (fun x hx => hs x (by simp [hx])) (by simpa using hk)
theorem flat_of {size : Nat} {xs : List (List Value)} (hs : ∀ x ∈ xs, x.length = size) {j : Nat} {u : Value} (hj : xs.flatten[j]? = some u) : ∃ k r cs, xs[k]? = some cs ∧ cs[r]? = some u ∧ j = k * size + r := by
  induction xs generalizing j with
  | nil => simp at hj
  | cons a t ih =>
    have ha := hs a (by simp)
    rw [List.flatten_cons] at hj
    by_cases hlt : j < a.length
    · rw [List.getElem?_append_left hlt] at hj
      exact ⟨0, j, a, rfl, hj, by omega⟩
    · rw [List.getElem?_append_right (by omega)] at hj
      obtain ⟨k, r, cs, h1, h2, h3⟩ := ih (fun x hx => hs x (by simp [hx])) hj
      exact ⟨k + 1, r, cs, by simpa using h1, h2, by rw [Nat.succ_mul]; omega⟩
theorem flat_len {size : Nat} {xs : List (List Value)} (hs : ∀ x ∈ xs, x.length = size) : xs.flatten.length = xs.length * size := by
  induction xs with
  | nil => simp
  | cons a t ih =>
    have ha := hs a (by simp)
    rw [List.flatten_cons, List.length_append, List.length_cons, Nat.succ_mul, ih (fun x hx => hs x (by simp [hx]))]
    omega
theorem ElAt.src {w : World} {S : Nat → Prop} {size : Nat} {A : Option Addr} {xs : List (List Value)} (h : ElAt w S size A xs) (hs : ∀ x ∈ xs, x.length = size) : Src w S size A xs.length xs.flatten :=
  ⟨flat_len hs, fun hn => by
    obtain ⟨b, o, hA, hS, hlt, hc⟩ := h hn
    refine ⟨_, hA, hS, hlt, fun j u hj => ?_⟩
    obtain ⟨k, r, cs, h1, h2, rfl⟩ := flat_of hs hj
    rw [add_plain', ← Nat.add_assoc]
    exact hc k cs h1 r u h2⟩
theorem Row.el {w : World} {F : Nat → Prop} {e : TypeId} {size n : Nat} {v : Value} {xs : List (List Value)} (h : Row w F e size v n xs.flatten) (hs : ∀ x ∈ xs, x.length = size) (hp : 0 < size) (hn : xs.length = n) :
    ∃ A c, v = .slice A n c ∧ n ≤ c ∧ c ≤ maxLen ∧ ElAt w F size A xs := by
  obtain ⟨hl, A, cap, hv, h1, h2, h3⟩ := h
  refine ⟨A, cap, hv, h1, h2, fun hpos => ?_⟩
  rcases h3 with h3 | ⟨g, cur, hA, hF, hg, hc, ht⟩
  · omega
  · refine ⟨g, 0, hA, hF, (Array.getElem?_eq_some_iff.1 hg).1, fun k cs hk j u hj => ?_⟩
    have h5 := flat_get hs hk hj
    rw [← ht] at h5
    have h6 : cur[k * size + j]? = some u := by
      rw [List.getElem?_take] at h5
      split at h5
      · simpa using h5
      · cases h5
    rw [Nat.zero_add, cell_of_row w g _ cur e (0, 0) hg]
    exact h6
theorem ent_len (es : List Ent) : ∀ x ∈ es.map Ent.cl, x.length = 5 := fun x hx => by
  obtain ⟨m, _, rfl⟩ := List.mem_map.1 hx
  rfl
/-- A truth is told. -/
def EqAns (P : Prop) (e : Ending) : Prop := ∃ b : Bool, e = .returned (.bool b) ∧ (b = true ↔ P)
theorem EqAns.no {P : Prop} {b : Bool} (hb : b = false) (h : ¬ P) : EqAns P (.returned (.bool b)) := ⟨b, rfl, by rw [hb]; simp [h]⟩
theorem EqAns.yes {P : Prop} {b : Bool} (hb : b = true) (h : P) : EqAns P (.returned (.bool b)) := ⟨b, rfl, by rw [hb]; simp [h]⟩
theorem sure_ne_ent {ops : Array Oper} {o : Oper} {a : Act} {w0 : World} {F : Nat → Prop} {p q : Operand} {ty : TypeId} (x y : Ent) (hw : Region.wanted o (yielded ops a.tmps) = true) (ho : o.op = .binOp .neq 34 p q ty)
    (hp : a.eval p = .agg #[.string x.key, .int .i64 x.time, .int .u16 x.org, .string x.val, .int .i64 x.til]) (hq : a.eval q = .agg #[.string y.key, .int .i64 y.time, .int .u16 y.org, .string y.val, .int .i64 y.til]) : Sure Try.prog ops (Only Noth) (Only F w0) o (.bool (!x.same y)) a := by
  refine sure_value hw (fun w1 k1 => ?_)
  unfold execOp
  have := ne_ent x y w1
  simp only [ho, hp, hq, Sem.run_bind, run_eqGuard_agg (hm := guard_ent), Result.andThen_ok, this, Sem.run_pure]
theorem take_eq_g {α : Type} {l m : List α} {k : Nat} (hk : l.take k = m.take k) {x y : α} (hx : l[k]? = some x) (hy : m[k]? = some y) (hxy : x = y) : l.take (k + 1) = m.take (k + 1) := by
  rw [List.take_add_one, List.take_add_one, hk, hx, hy, hxy]
set_option maxHeartbeats 2000000 in
theorem eq_ents (A B : Option Addr) (c d : Nat) (l m : List Ent) (w : World) (S S' : Nat → Prop) (ha : ElAt w S 5 A (l.map Ent.cl)) (hb : ElAt w S' 5 B (m.map Ent.cl)) (hl : l.length ≤ 9223372036854775807) (hm : m.length ≤ 9223372036854775807) :
    Calls Try.prog 44 #[.slice A l.length c, .slice B m.length d] w fun e w' => EqAns (l = m) e ∧ Only Noth w w' := by
  have HA := Lib.hid ha
  have HB := Lib.hid hb
  have hn0 : (0 : Int) ≤ l.length := by omega
  clear ha hb
  go_enter Try.func44, Try.ntmps44
  by_cases hlen : l.length = m.length
  · have hlen2 : ((l.length : Int) == m.length) = true := by simp [hlen]
    have HL := Lib.hid hlen
    go_wp2_with fail
    go_loopw [13] (fun i W => ∃ k : Nat, k ≤ l.length ∧ i = .int .i64 (k : Int) ∧ l.take k = m.take k ∧ Only Noth w W) (fun i _ => l.length - (RowKit.intOf i).toNat)
    case atStart => exact ⟨0, Nat.zero_le _, rfl, by simp, Only.refl _ _⟩
    case round =>
      obtain ⟨k, hk, rfl, ht, ho⟩ := hrel
      have HT := Lib.hid ht
      have ON := Lib.hid ho
      clear ht ho
      by_cases hlt : k < l.length
      · obtain ⟨x, hx⟩ : ∃ x, l[k]? = some x := ⟨_, List.getElem?_eq_getElem hlt⟩
        obtain ⟨y, hy⟩ : ∃ y, m[k]? = some y := ⟨_, List.getElem?_eq_getElem (by omega)⟩
        obtain ⟨ab, ao, hAe, _, hal, e0, e1, e2, e3, e4⟩ := (HA.out.noth ON.out).ent hx
        obtain ⟨bb, bo, hBe, _, hbl, f0, f1, f2, f3, f4⟩ := (HB.out.noth ON.out).ent hy
        rw [hAe, hBe]
        have HX := Lib.hid hx
        have HY := Lib.hid hy
        have hb0 : (0 : Int) ≤ k := by omega
        have hb1 : (k : Int) < l.length := by omega
        have hb2 : (k : Int) < m.length := by omega
        clear hx hy
        go_wp2_with fail
        refine wp_region_N Noth (by kernel_rfl) ?_
        refine wpN_take (i := 0) (d := some 16) rfl rfl (by kernel_rfl) (by kernel_rfl) (by kernel_rfl) (fun _ _ _ h => h) (sure_value (v := .slice (some ⟨ab, ao, none⟩) l.length c) (by rfl) (fun v1 h1 => by first | rfl | go_simp)) (Only.refl _ _) ?_
        simp only [Act.put, List.setIfInBounds_toArray, List.set_cons_zero, List.set_cons_succ]
        refine wpN_take (i := 1) (d := some 17) rfl rfl (by kernel_rfl) (by kernel_rfl) (by kernel_rfl) (fun _ _ _ h => h) (sure_value (v := .int .i64 (k : Int)) (by rfl) (fun v1 h1 => by first | rfl | go_simp)) (Only.refl _ _) ?_
        simp only [Act.put, List.setIfInBounds_toArray, List.set_cons_zero, List.set_cons_succ]
        refine wpN_take (i := 2) (d := some 18) rfl rfl (by kernel_rfl) (by kernel_rfl) (by kernel_rfl) (fun _ _ _ h => h) (sure_value (v := .pointer (some ⟨ab, ao + k * 5, none⟩)) (by rfl) (fun v1 h1 => by first | rfl | go_simp)) (Only.refl _ _) ?_
        simp only [Act.put, List.setIfInBounds_toArray, List.set_cons_zero, List.set_cons_succ]
        refine wpN_take (i := 3) (d := some 19) rfl rfl (by kernel_rfl) (by kernel_rfl) (by kernel_rfl) (fun _ _ _ h => h) (sure_value (v := .agg #[.string x.key, .int .i64 x.time, .int .u16 x.org, .string x.val, .int .i64 x.til]) (by rfl) (fun v1 h1 => by have q0 : v1.cell? ⟨ab, ao + k * 5, none⟩ = some (.string x.key) := ((Only.undrew h1).cell hal (fun h => h)).trans e0; have q1 : v1.cell? ⟨ab, ao + k * 5 + 1, none⟩ = some (.int .i64 x.time) := ((Only.undrew h1).cell hal (fun h => h)).trans e1; have q2 : v1.cell? ⟨ab, ao + k * 5 + 2, none⟩ = some (.int .u16 x.org) := ((Only.undrew h1).cell hal (fun h => h)).trans e2; have q3 : v1.cell? ⟨ab, ao + k * 5 + 3, none⟩ = some (.string x.val) := ((Only.undrew h1).cell hal (fun h => h)).trans e3; have q4 : v1.cell? ⟨ab, ao + k * 5 + 4, none⟩ = some (.int .i64 x.til) := ((Only.undrew h1).cell hal (fun h => h)).trans e4; go_simp)) (Only.refl _ _) ?_
        simp only [Act.put, List.setIfInBounds_toArray, List.set_cons_zero, List.set_cons_succ]
        refine wpN_take (i := 4) (d := some 20) rfl rfl (by kernel_rfl) (by kernel_rfl) (by kernel_rfl) (fun _ _ _ h => h) (sure_value (v := .slice (some ⟨bb, bo, none⟩) m.length d) (by rfl) (fun v1 h1 => by first | rfl | go_simp)) (Only.refl _ _) ?_
        simp only [Act.put, List.setIfInBounds_toArray, List.set_cons_zero, List.set_cons_succ]
        refine wpN_take (i := 5) (d := some 21) rfl rfl (by kernel_rfl) (by kernel_rfl) (by kernel_rfl) (fun _ _ _ h => h) (sure_value (v := .int .i64 (k : Int)) (by rfl) (fun v1 h1 => by first | rfl | go_simp)) (Only.refl _ _) ?_
        simp only [Act.put, List.setIfInBounds_toArray, List.set_cons_zero, List.set_cons_succ]
        refine wpN_take (i := 6) (d := some 22) rfl rfl (by kernel_rfl) (by kernel_rfl) (by kernel_rfl) (fun _ _ _ h => h) (sure_value (v := .pointer (some ⟨bb, bo + k * 5, none⟩)) (by rfl) (fun v1 h1 => by first | rfl | go_simp)) (Only.refl _ _) ?_
        simp only [Act.put, List.setIfInBounds_toArray, List.set_cons_zero, List.set_cons_succ]
        refine wpN_take (i := 7) (d := some 23) rfl rfl (by kernel_rfl) (by kernel_rfl) (by kernel_rfl) (fun _ _ _ h => h) (sure_value (v := .agg #[.string y.key, .int .i64 y.time, .int .u16 y.org, .string y.val, .int .i64 y.til]) (by rfl) (fun v1 h1 => by have q0 : v1.cell? ⟨bb, bo + k * 5, none⟩ = some (.string y.key) := ((Only.undrew h1).cell hbl (fun h => h)).trans f0; have q1 : v1.cell? ⟨bb, bo + k * 5 + 1, none⟩ = some (.int .i64 y.time) := ((Only.undrew h1).cell hbl (fun h => h)).trans f1; have q2 : v1.cell? ⟨bb, bo + k * 5 + 2, none⟩ = some (.int .u16 y.org) := ((Only.undrew h1).cell hbl (fun h => h)).trans f2; have q3 : v1.cell? ⟨bb, bo + k * 5 + 3, none⟩ = some (.string y.val) := ((Only.undrew h1).cell hbl (fun h => h)).trans f3; have q4 : v1.cell? ⟨bb, bo + k * 5 + 4, none⟩ = some (.int .i64 y.til) := ((Only.undrew h1).cell hbl (fun h => h)).trans f4; go_simp)) (Only.refl _ _) ?_
        simp only [Act.put, List.setIfInBounds_toArray, List.set_cons_zero, List.set_cons_succ]
        refine wpN_take (i := 8) (d := some 24) rfl rfl (by kernel_rfl) (by kernel_rfl) (by kernel_rfl) (fun _ _ _ h => h) (sure_ne_ent x y (by rfl) rfl rfl rfl) (Only.refl _ _) ?_
        simp only [Act.put, List.setIfInBounds_toArray, List.set_cons_zero, List.set_cons_succ]
        refine wpN_done (by kernel_rfl) (fun w7 ho => ?_) _
        have ON7 := Lib.hid (ON.out.tr (Only.undrew ho))
        clear ho e0 e1 e2 e3 e4 f0 f1 f2 f3 f4
        by_cases h0 : x = y
        · have h1 : (!x.same y) = false := by rw [same_iff.2 h0]; rfl
          have HE := Lib.hid (take_eq_g HT.out HX.out HY.out h0)
          rw [h1]
          go_wp2_with fail
          go_roundw
          case rel => exact ⟨k + 1, by omega, by go_num, HE.out, ON7.out⟩
          case measure => simp [RowKit.intOf]; omega
        · have h1 : (!x.same y) = true := by
            cases hs : x.same y
            · rfl
            · exact absurd (same_iff.1 hs) h0
          have HNE := Lib.hid (show l ≠ m from fun e => h0 (by have a := HX.out; have b := HY.out; rw [e] at a; rw [a] at b; exact Option.some.inj b))
          rw [h1]
          go_wp2
          go_ret
          exact ⟨.no rfl HNE.out, ON7.out⟩
      · obtain rfl : k = l.length := by omega
        have e : l = m := by
          have := HT.out
          rw [List.take_of_length_le (Nat.le_refl _), List.take_of_length_le (by rw [HL.out]; exact Nat.le_refl _)] at this
          exact this
        have HE := Lib.hid e
        clear e
        go_wp2
        go_ret
        exact ⟨.yes rfl HE.out, ON.out⟩
  · have hlen2 : ((l.length : Int) == m.length) = false := by simp; omega
    have HNE := Lib.hid (show l ≠ m from fun e => hlen (by rw [e]))
    go_wp2
    go_ret
    exact ⟨.no rfl HNE.out, Only.refl _ _⟩
set_option maxHeartbeats 2000000 in
theorem ref_ents (A B : Option Addr) (c d : Nat) (l m : List Ent) (w : World) (S S' : Nat → Prop) (ha : ElAt w S 5 A (l.map Ent.cl)) (hb : ElAt w S' 5 B (m.map Ent.cl)) (hl : l.length ≤ 9223372036854775807) (hm : m.length ≤ 9223372036854775807) :
    Calls Try.prog 27 #[.slice A l.length c, .slice B m.length d] w fun e w' => EqAns (l = m) e ∧ Only Noth w w' := by
  have HA := Lib.hid ha
  have HB := Lib.hid hb
  have hn0 : (0 : Int) ≤ l.length := by omega
  clear ha hb
  go_enter Try.func27, Try.ntmps27
  by_cases hlen : l.length = m.length
  · have hlen2 : ((l.length : Int) == m.length) = true := by simp [hlen]
    have HL := Lib.hid hlen
    go_wp2_with fail
    go_loopw [5] (fun i W => ∃ k : Nat, k ≤ l.length ∧ i = .int .i64 (k : Int) ∧ l.take k = m.take k ∧ Only Noth w W) (fun i _ => l.length - (RowKit.intOf i).toNat)
    case atStart => exact ⟨0, Nat.zero_le _, rfl, by simp, Only.refl _ _⟩
    case round =>
      obtain ⟨k, hk, rfl, ht, ho⟩ := hrel
      have HT := Lib.hid ht
      have ON := Lib.hid ho
      clear ht ho
      by_cases hlt : k < l.length
      · obtain ⟨x, hx⟩ : ∃ x, l[k]? = some x := ⟨_, List.getElem?_eq_getElem hlt⟩
        obtain ⟨y, hy⟩ : ∃ y, m[k]? = some y := ⟨_, List.getElem?_eq_getElem (by omega)⟩
        obtain ⟨ab, ao, hAe, _, hal, e0, e1, e2, e3, e4⟩ := (HA.out.noth ON.out).ent hx
        obtain ⟨bb, bo, hBe, _, hbl, f0, f1, f2, f3, f4⟩ := (HB.out.noth ON.out).ent hy
        rw [hAe, hBe]
        have HX := Lib.hid hx
        have HY := Lib.hid hy
        have hb0 : (0 : Int) ≤ k := by omega
        have hb1 : (k : Int) < l.length := by omega
        have hb2 : (k : Int) < m.length := by omega
        clear hx hy
        go_wp2_with fail
        refine wp_region_N Noth (by kernel_rfl) ?_
        refine wpN_take (i := 0) (d := some 17) rfl rfl (by kernel_rfl) (by kernel_rfl) (by kernel_rfl) (fun _ _ _ h => h) (sure_value (v := .slice (some ⟨ab, ao, none⟩) l.length c) (by rfl) (fun v1 h1 => by first | rfl | go_simp)) (Only.refl _ _) ?_
        simp only [Act.put, List.setIfInBounds_toArray, List.set_cons_zero, List.set_cons_succ]
        refine wpN_take (i := 1) (d := some 18) rfl rfl (by kernel_rfl) (by kernel_rfl) (by kernel_rfl) (fun _ _ _ h => h) (sure_value (v := .int .i64 (k : Int)) (by rfl) (fun v1 h1 => by first | rfl | go_simp)) (Only.refl _ _) ?_
        simp only [Act.put, List.setIfInBounds_toArray, List.set_cons_zero, List.set_cons_succ]
        refine wpN_take (i := 2) (d := some 19) rfl rfl (by kernel_rfl) (by kernel_rfl) (by kernel_rfl) (fun _ _ _ h => h) (sure_value (v := .pointer (some ⟨ab, ao + k * 5, none⟩)) (by rfl) (fun v1 h1 => by first | rfl | go_simp)) (Only.refl _ _) ?_
        simp only [Act.put, List.setIfInBounds_toArray, List.set_cons_zero, List.set_cons_succ]
        refine wpN_take (i := 3) (d := some 20) rfl rfl (by kernel_rfl) (by kernel_rfl) (by kernel_rfl) (fun _ _ _ h => h) (sure_value (v := .agg #[.string x.key, .int .i64 x.time, .int .u16 x.org, .string x.val, .int .i64 x.til]) (by rfl) (fun v1 h1 => by have q0 : v1.cell? ⟨ab, ao + k * 5, none⟩ = some (.string x.key) := ((Only.undrew h1).cell hal (fun h => h)).trans e0; have q1 : v1.cell? ⟨ab, ao + k * 5 + 1, none⟩ = some (.int .i64 x.time) := ((Only.undrew h1).cell hal (fun h => h)).trans e1; have q2 : v1.cell? ⟨ab, ao + k * 5 + 2, none⟩ = some (.int .u16 x.org) := ((Only.undrew h1).cell hal (fun h => h)).trans e2; have q3 : v1.cell? ⟨ab, ao + k * 5 + 3, none⟩ = some (.string x.val) := ((Only.undrew h1).cell hal (fun h => h)).trans e3; have q4 : v1.cell? ⟨ab, ao + k * 5 + 4, none⟩ = some (.int .i64 x.til) := ((Only.undrew h1).cell hal (fun h => h)).trans e4; go_simp)) (Only.refl _ _) ?_
        simp only [Act.put, List.setIfInBounds_toArray, List.set_cons_zero, List.set_cons_succ]
        refine wpN_take (i := 4) (d := some 21) rfl rfl (by kernel_rfl) (by kernel_rfl) (by kernel_rfl) (fun _ _ _ h => h) (sure_value (v := .slice (some ⟨bb, bo, none⟩) m.length d) (by rfl) (fun v1 h1 => by first | rfl | go_simp)) (Only.refl _ _) ?_
        simp only [Act.put, List.setIfInBounds_toArray, List.set_cons_zero, List.set_cons_succ]
        refine wpN_take (i := 5) (d := some 22) rfl rfl (by kernel_rfl) (by kernel_rfl) (by kernel_rfl) (fun _ _ _ h => h) (sure_value (v := .int .i64 (k : Int)) (by rfl) (fun v1 h1 => by first | rfl | go_simp)) (Only.refl _ _) ?_
        simp only [Act.put, List.setIfInBounds_toArray, List.set_cons_zero, List.set_cons_succ]
        refine wpN_take (i := 6) (d := some 23) rfl rfl (by kernel_rfl) (by kernel_rfl) (by kernel_rfl) (fun _ _ _ h => h) (sure_value (v := .pointer (some ⟨bb, bo + k * 5, none⟩)) (by rfl) (fun v1 h1 => by first | rfl | go_simp)) (Only.refl _ _) ?_
        simp only [Act.put, List.setIfInBounds_toArray, List.set_cons_zero, List.set_cons_succ]
        refine wpN_take (i := 7) (d := some 24) rfl rfl (by kernel_rfl) (by kernel_rfl) (by kernel_rfl) (fun _ _ _ h => h) (sure_value (v := .agg #[.string y.key, .int .i64 y.time, .int .u16 y.org, .string y.val, .int .i64 y.til]) (by rfl) (fun v1 h1 => by have q0 : v1.cell? ⟨bb, bo + k * 5, none⟩ = some (.string y.key) := ((Only.undrew h1).cell hbl (fun h => h)).trans f0; have q1 : v1.cell? ⟨bb, bo + k * 5 + 1, none⟩ = some (.int .i64 y.time) := ((Only.undrew h1).cell hbl (fun h => h)).trans f1; have q2 : v1.cell? ⟨bb, bo + k * 5 + 2, none⟩ = some (.int .u16 y.org) := ((Only.undrew h1).cell hbl (fun h => h)).trans f2; have q3 : v1.cell? ⟨bb, bo + k * 5 + 3, none⟩ = some (.string y.val) := ((Only.undrew h1).cell hbl (fun h => h)).trans f3; have q4 : v1.cell? ⟨bb, bo + k * 5 + 4, none⟩ = some (.int .i64 y.til) := ((Only.undrew h1).cell hbl (fun h => h)).trans f4; go_simp)) (Only.refl _ _) ?_
        simp only [Act.put, List.setIfInBounds_toArray, List.set_cons_zero, List.set_cons_succ]
        refine wpN_take (i := 8) (d := some 25) rfl rfl (by kernel_rfl) (by kernel_rfl) (by kernel_rfl) (fun _ _ _ h => h) (sure_ne_ent x y (by rfl) rfl rfl rfl) (Only.refl _ _) ?_
        simp only [Act.put, List.setIfInBounds_toArray, List.set_cons_zero, List.set_cons_succ]
        refine wpN_done (by kernel_rfl) (fun w7 ho => ?_) _
        have ON7 := Lib.hid (ON.out.tr (Only.undrew ho))
        clear ho e0 e1 e2 e3 e4 f0 f1 f2 f3 f4
        by_cases h0 : x = y
        · have h1 : (!x.same y) = false := by rw [same_iff.2 h0]; rfl
          have HE := Lib.hid (take_eq_g HT.out HX.out HY.out h0)
          rw [h1]
          go_wp2_with fail
          go_roundw
          case rel => exact ⟨k + 1, by omega, by go_num, HE.out, ON7.out⟩
          case measure => simp [RowKit.intOf]; omega
        · have h1 : (!x.same y) = true := by
            cases hs : x.same y
            · rfl
            · exact absurd (same_iff.1 hs) h0
          have HNE := Lib.hid (show l ≠ m from fun e => h0 (by have a := HX.out; have b := HY.out; rw [e] at a; rw [a] at b; exact Option.some.inj b))
          rw [h1]
          go_wp2
          go_ret
          exact ⟨.no rfl HNE.out, ON7.out⟩
      · obtain rfl : k = l.length := by omega
        have e : l = m := by
          have := HT.out
          rw [List.take_of_length_le (Nat.le_refl _), List.take_of_length_le (by rw [HL.out]; exact Nat.le_refl _)] at this
          exact this
        have HE := Lib.hid e
        clear e
        go_wp2
        go_ret
        exact ⟨.yes rfl HE.out, ON.out⟩
  · have hlen2 : ((l.length : Int) == m.length) = false := by simp; omega
    have HNE := Lib.hid (show l ≠ m from fun e => hlen (by rw [e]))
    go_wp2
    go_ret
    exact ⟨.no rfl HNE.out, Only.refl _ _⟩
/-- A list of entries that can be read. -/
def Ents (w : World) (v : Value) (l : List Ent) : Prop := ∃ A c, v = .slice A l.length c ∧ ElAt w (fun k => k < w.heap.size) 5 A (l.map Ent.cl) ∧ l.length ≤ c ∧ c ≤ 9223372036854775807
theorem Ents.noth {w w' : World} {v : Value} {l : List Ent} (h : Ents w v l) (ho : Only Noth w w') : Ents w' v l := by
  obtain ⟨A, c, h1, h2, h3⟩ := h
  exact ⟨A, c, h1, (h2.noth ho).mono (fun _ _ h => h), h3⟩
theorem Ents.only {w w' : World} {F : Nat → Prop} {v : Value} {l : List Ent} (h : Ents w v l) (ho : Only F w w') (hF : ∀ A c, v = .slice A l.length c → 0 < l.length → ∀ b o, A = some ⟨b, o, none⟩ → ¬ F b) : Ents w' v l := by
  obtain ⟨A, c, h1, h2, h3⟩ := h
  refine ⟨A, c, h1, fun hn => ?_, h3⟩
  obtain ⟨b, o, hA, hS, hlt, hc⟩ := h2 hn
  have hb := hF A c h1 (by simpa using hn) b o hA
  exact ⟨b, o, hA, Nat.lt_of_lt_of_le hlt ho.size, Nat.lt_of_lt_of_le hlt ho.size, fun k cs hk j v hv => (ho.cell (p := ⟨b, o + k * 5 + j, none⟩) hlt hb).trans (hc k cs hk j v hv)⟩
/-- What which hands back can be read; it lies in new memory. -/
theorem WhichAns.ents {w w' : World} {M : List Ent} {e : Ending} (h : WhichAns w M e w') : ∃ A c, e = .returned (.slice A M.length c) ∧ Ents w' (.slice A M.length c) M ∧ Row w' (New w) 34 5 (.slice A M.length c) M.length (M.map Ent.cl).flatten := by
  obtain ⟨A, c, h1, h2⟩ := h
  obtain ⟨A', c', hv, k1, k2, hel⟩ := h2.el (xs := M.map Ent.cl) (ent_len _) (by omega) (by rw [List.length_map])
  injection hv with e1 _ e3
  subst e1 e3
  exact ⟨A, c, h1, ⟨A, c, rfl, hel.mono (fun k hk hl => hl), k1, k2⟩, h2⟩
theorem cm_same (A B : Option Addr) (c d : Nat) (l m : List Ent) (w : World) (ha : Ents w (.slice A l.length c) l) (hb : Ents w (.slice B m.length d) m) :
    Calls Try.prog 22 #[.slice A l.length c, .slice B m.length d] w fun e w' => EqAns (l = m) e ∧ Only Noth w w' := by
  obtain ⟨A', c', e1, h1, h2, h3⟩ := ha
  obtain ⟨B', d', e2, k1, k2, k3⟩ := hb
  injection e1 with a1 _ a3
  injection e2 with b1 _ b3
  subst a1 a3 b1 b3
  have H1 := Lib.hid h1
  have H2 := Lib.hid k1
  clear h1 k1
  go_enter Try.func22, Try.ntmps22
  go_wp2_with fail
  refine (eq_ents A B c d l m w _ _ H1.out H2.out (by omega) (by omega)).mono ?_
  rintro e w' ⟨⟨b, rfl, hb⟩, ho⟩
  have HB := Lib.hid hb
  have HO := Lib.hid ho
  clear hb ho
  go_wp2
  go_ret
  exact ⟨⟨b, rfl, HB.out⟩, HO.out⟩
end Go.Proofs.Ytdclkbhkboaafaa
