/- The reference's joiner: Add. -/
import Derived.Test.YtemeglofblnnmaaRjC
import Derived.Test.YtemeglofblnnmaaJnV
import Derived.Deep.CutRange
namespace Go.Proofs.Ytemeglofblnnmaa
open Go.RowKit Go.Lib
set_option linter.unusedVariables false
set_option linter.unusedSimpArgs false
set_option maxRecDepth 100000
attribute [local go_sem ↓] Go.wp_at_zero Go.wp_at_succ

theorem rpcinfo : (Try.prog.info? 84).map (fun i => (i.zero, i.size, i.bytes)) = some (some (.agg #[.bool false, .string ⟨#[]⟩]), 2, 24) := by kernel_rfl
theorem made_pcs (n : Nat) : madeCells #[Value.bool false, Value.string ⟨#[]⟩] (n * 2) = (pcs (List.replicate n none)).toArray := by
  apply Array.ext
  · simp [madeCells, pcs_len]
  · intro i h1 h2
    have hn : i < n * 2 := by simpa [madeCells] using h1
    have h3 := pcs_at (l := List.replicate n none) (i := i / 2) (o := none) (by rw [List.getElem?_replicate, if_pos (by omega)])
    rcases Nat.mod_two_eq_zero_or_one i with h | h
    · have e : i = i / 2 * 2 := by omega
      have h4 := h3.1
      rw [← e] at h4
      have h5 : (pcs (List.replicate n none))[i]'(by simpa using h2) = .bool false := (List.getElem?_eq_some_iff.1 h4).2
      simp [madeCells, h, h5]
    · have e : i = i / 2 * 2 + 1 := by omega
      have h4 := h3.2
      rw [← e] at h4
      have h5 : (pcs (List.replicate n none))[i]'(by simpa using h2) = .string ⟨#[]⟩ := (List.getElem?_eq_some_iff.1 h4).2
      simp [madeCells, h, h5]
theorem make_pieces (n : Nat) (hn : n ≤ 1000) (w : World) : (Instr.makeSlice 79 (.int .i64 n) (.int .i64 n)).run Try.prog w = .ok (.slice (some ⟨w.heap.size, 0, none⟩) n n) (w.alloc (.cells (pcs (List.replicate n none)).toArray 84)) := by
  obtain ⟨i0, hi, hz0, hz1, hz2⟩ := info_parts rpcinfo
  have := run_makeSlice (P := Try.prog) w 79 84 i0 _ Try.underlying79 hi hz0 .i64 .i64 n n (by omega) (by omega) (by rw [hz1]; simp; omega) (by rw [hz2]; omega) (by omega)
  simp only [Int.toNat_natCast, hz1] at this
  rw [this, show (Value.agg #[.bool false, .string ⟨#[]⟩]).cells = #[Value.bool false, Value.string ⟨#[]⟩] from rfl, made_pcs]
theorem makeSlice_op {P : Program} {o : Oper} {a : Act} {t : TypeId} {x y : Operand} {X Y v : Value} {w1 w2 : World} (ho : o.op = .makeSlice t x y) (hx : a.eval x = X) (hy : a.eval y = Y) (hr : (Instr.makeSlice t X Y).run P w1 = .ok v w2) : (execOp a.eval o).run P w1 = .ok (.value v) w2 := by
  subst hx hy
  unfold execOp
  simp only [ho, Sem.run_bind, hr, Result.andThen_ok, Sem.run_pure]
theorem build_slice_rt (frm id : Int) (B : Option Addr) (n d : Nat) (V : World) : (Instr.buildSlice 46 1 #[(0, .agg #[.int .u16 frm, .int .i64 id, .slice B n d])]).run Try.prog V = .ok (.slice (some ⟨V.heap.size, 0, none⟩) 1 1) (V.alloc (.cells #[.int .u16 frm, .int .i64 id, .slice B n d] 81)) := by
  obtain ⟨i0, hti, hz0, hz1, hz2⟩ := info_parts rtxinfo
  exact run_buildSlice V 46 81 1 _ _ i0 _ Try.underlying46 hti hz0 (by rw [hz1]; decide) (by rw [hz1]; decide) (by rw [hz1]; kernel_rfl)
/-- Within a call of Add that began at w: the boxes. -/
structure RSt (S Sv : Nat → Prop) (w W : World) (p : Pt) (pv u : Value) (lost : Nat) : Prop where
  box : Hld W w.heap.size 48 #[u, .int .i64 lost]
  part : Hld W (w.heap.size + 1) 33 #[.int .i64 p.id, .int .i64 p.idx, .int .i64 p.cnt, pv]
  res : Hld W (w.heap.size + 2) 48 #[.slice none 0 0, .int .i64 0]
  bs : BsAt W Sv pv p.bs
  only : Only Noth w W
  size : w.heap.size + 3 ≤ W.heap.size
theorem RSt.noth {S Sv : Nat → Prop} {w W W' : World} {p : Pt} {pv u : Value} {lost : Nat} (h : RSt S Sv w W p pv u lost) (ho : Only Noth W W') : RSt S Sv w W' p pv u lost :=
  ⟨h.box.only ho (fun h => h), h.part.only ho (fun h => h), h.res.only ho (fun h => h), h.bs.noth ho, h.only.tr ho, Nat.le_trans h.size ho.size⟩
theorem RSt.cells {S Sv : Nat → Prop} {w W : World} {p : Pt} {pv u : Value} {lost : Nat} (h : RSt S Sv w W p pv u lost) : (W.cell? ⟨w.heap.size, 0, none⟩ = some u ∧ W.cell? ⟨w.heap.size, 1, none⟩ = some (.int .i64 lost)) ∧ (W.cell? ⟨w.heap.size + 1, 0, none⟩ = some (.int .i64 p.id) ∧ W.cell? ⟨w.heap.size + 1, 1, none⟩ = some (.int .i64 p.idx) ∧ W.cell? ⟨w.heap.size + 1, 2, none⟩ = some (.int .i64 p.cnt) ∧ W.cell? ⟨w.heap.size + 1, 3, none⟩ = some pv) :=
  ⟨⟨h.box.cell 0, h.box.cell 1⟩, h.part.cell 0, h.part.cell 1, h.part.cell 2, h.part.cell 3⟩
/-- Where the texts may lie meanwhile: not in the boxes. -/
def RZ (S : Nat → Prop) (w : World) : Nat → Prop := fun b => (S b ∨ New w b) ∧ ¬ (w.heap.size ≤ b ∧ b < w.heap.size + 3)
theorem RT.shape {w : World} {S : Nat → Prop} {u : Value} {T : List Tx} (h : RT w S u T) : ∃ A c, u = .slice A T.length c := by
  obtain ⟨A, c, _, h, _⟩ := h
  exact ⟨A, c, h⟩
theorem RSt.to {S Sv : Nat → Prop} {w W W' : World} {p : Pt} {pv u u' : Value} {lost lost' : Nat} (h : RSt S Sv w W p pv u lost) (hSv : ∀ k, Sv k → k < w.heap.size) (hb : Hld W' w.heap.size 48 #[u', .int .i64 lost']) (ho : Only (fun k => k = w.heap.size) W W') : RSt S Sv w W' p pv u' lost' :=
  ⟨hb, h.part.only ho (fun h => by omega), h.res.only ho (fun h => by omega), h.bs.only ho (fun k hk e => by have := hSv k hk; omega), h.only.trans ho (fun j hj hl => by omega), Nat.le_trans h.size ho.size⟩
theorem RT.box {S : Nat → Prop} {w W W' : World} {u : Value} {T : List Tx} (h : RT W (RZ S w) u T) (ho : Only (fun k => k = w.heap.size) W W') : RT W' (RZ S w) u T := h.only ho (fun k hk e => hk.2 (by omega))
/-- The copied texts: their row, apart from their pieces. -/
structure LSt (S : Nat → Prop) (w W : World) (A : Option Addr) (c : Nat) (css : List (List Value)) (T : List Tx) : Prop where
  row : Row W (fun b => New w b ∧ ¬ (w.heap.size ≤ b ∧ b < w.heap.size + 3)) 81 3 (.slice A T.length c) T.length css.flatten
  txs : RTxs W (fun b => RZ S w b ∧ ¬ RowB A c b) css T
theorem LSt.only {S F : Nat → Prop} {w W W' : World} {A : Option Addr} {c : Nat} {css : List (List Value)} {T : List Tx} (h : LSt S w W A c css T) (ho : Only F W W') (hF : ∀ k, F k → w.heap.size ≤ k ∧ k < w.heap.size + 3) : LSt S w W' A c css T :=
  ⟨h.row.only ho (fun k hk hf => hk.2 (hF k hf)), h.txs.only ho (fun k hk hf => hk.1.2 (hF k hf))⟩
theorem LSt.noth {S : Nat → Prop} {w W W' : World} {A : Option Addr} {c : Nat} {css : List (List Value)} {T : List Tx} (h : LSt S w W A c css T) (ho : Only Noth W W') : LSt S w W' A c css T := h.only ho (fun _ h => h.elim)
theorem Hld.src3 {W : World} {p : Nat} {x0 x1 x2 : Value} {t : TypeId} (h : Hld W p t #[x0, x1, x2]) : Src W (fun _ => True) 3 (some ⟨p, 0, none⟩) 1 [x0, x1, x2] :=
  ⟨rfl, fun _ => ⟨_, rfl, trivial, h.lt, fun j u hu => by rw [add_plain', Nat.zero_add, h.cell j]; simpa using hu⟩⟩
/-- The copied texts, wherever in their block they begin. -/
structure LOff (S : Nat → Prop) (w W : World) (A : Option Addr) (c : Nat) (css : List (List Value)) (T : List Tx) : Prop where
  row : 0 < T.length → ∃ (g o : Nat) (cur : Array Value), A = some ⟨g, o, none⟩ ∧ (New w g ∧ ¬ (w.heap.size ≤ g ∧ g < w.heap.size + 3)) ∧ Hld W g 81 cur ∧ ∀ (j : Nat) (u : Value), css.flatten[j]? = some u → cur[o + j]? = some u
  txs : RTxs W (fun b => RZ S w b ∧ ∀ o, A ≠ some ⟨b, o, none⟩) css T
  cap : T.length ≤ c ∧ c ≤ maxLen
theorem LOff.only {S F : Nat → Prop} {w W W' : World} {A : Option Addr} {c : Nat} {css : List (List Value)} {T : List Tx} (h : LOff S w W A c css T) (ho : Only F W W') (hF : ∀ k, F k → (w.heap.size ≤ k ∧ k < w.heap.size + 3) ∨ W.heap.size ≤ k) : LOff S w W' A c css T := by
  refine ⟨fun hp => ?_, ?_, h.cap⟩
  · obtain ⟨g, o, cur, hA, hg, hh, hc⟩ := h.row hp
    refine ⟨g, o, cur, hA, hg, hh.only ho (fun hf => ?_), hc⟩
    rcases hF g hf with h | h
    · exact hg.2 h
    · have := hh.lt
      omega
  · refine ((h.txs.mono (fun k hk hl => (⟨hk, hl⟩ : (RZ S w k ∧ ∀ o, A ≠ some ⟨k, o, none⟩) ∧ k < W.heap.size))).only ho (fun k hk hf => ?_)).mono (fun k hk _ => hk.1)
    rcases hF k hf with h | h
    · exact hk.1.1.2 h
    · have := hk.2
      omega
theorem LOff.noth {S : Nat → Prop} {w W W' : World} {A : Option Addr} {c : Nat} {css : List (List Value)} {T : List Tx} (h : LOff S w W A c css T) (ho : Only Noth W W') : LOff S w W' A c css T := h.only ho (fun _ h => h.elim)
theorem LSt.blk {S : Nat → Prop} {w W : World} {A : Option Addr} {c : Nat} {css : List (List Value)} {T : List Tx} (h : LSt S w W A c css T) (hp : 0 < T.length) : ∃ (g : Nat) (cur : Array Value), A = some ⟨g, 0, none⟩ ∧ c ≠ 0 ∧ (New w g ∧ ¬ (w.heap.size ≤ g ∧ g < w.heap.size + 3)) ∧ Hld W g 81 cur ∧ ∀ (j : Nat) (u : Value), css.flatten[j]? = some u → cur[j]? = some u := by
  obtain ⟨hl, A', cap, hv, h1, h2, h3⟩ := h.row
  injection hv with e1 _ e3
  subst e1 e3
  rcases h3 with h3 | ⟨g, cur, hA, hF, hg, hc, ht⟩
  · omega
  · refine ⟨g, cur, hA, by omega, hF, hg, fun j u hu => ?_⟩
    rw [← ht, List.getElem?_take] at hu
    split at hu
    · simpa using hu
    · cases hu
theorem LSt.caps {S : Nat → Prop} {w W : World} {A : Option Addr} {c : Nat} {css : List (List Value)} {T : List Tx} (h : LSt S w W A c css T) : T.length ≤ c ∧ c ≤ maxLen := by
  obtain ⟨hl, A', cap, hv, h1, h2, h3⟩ := h.row
  injection hv with _ _ e3
  subst e3
  exact ⟨h1, h2⟩
theorem LSt.off {S : Nat → Prop} {w W : World} {A : Option Addr} {c : Nat} {css : List (List Value)} {T : List Tx} (h : LSt S w W A c css T) : LOff S w W A c css T := by
  refine ⟨fun hp => ?_, ?_, h.caps⟩
  · obtain ⟨g, cur, hA, _, hg, hh, hc⟩ := h.blk hp
    exact ⟨g, 0, cur, hA, hg, hh, fun j u hu => by rw [Nat.zero_add]; exact hc j u hu⟩
  · by_cases hp : 0 < T.length
    · obtain ⟨g, cur, hA, hc0, hg, hh, hc⟩ := h.blk hp
      refine h.txs.mono (fun k hk _ => ⟨hk.1, fun o e => hk.2 ⟨hc0, ?_⟩⟩)
      rw [hA] at e ⊢
      injection e with e
      injection e with e _ _
      rw [e]
    · refine ⟨h.txs.1, fun i t ht => ?_⟩
      have := (List.getElem?_eq_some_iff.1 ht).1
      omega
theorem LSt.tail {S : Nat → Prop} {w W : World} {A : Option Addr} {c n : Nat} {css : List (List Value)} {T : List Tx} (h : LSt S w W A c css T) (hn : T.length = n) (hp : 1 < n) : ∃ A', (∀ V : World, (Instr.slice 46 (.slice A n c) (some (.int .i64 1)) none none).run Try.prog V = .ok (.slice A' (n - 1) (c - 1)) V) ∧ LOff S w W A' (c - 1) (css.eraseIdx 0) (T.eraseIdx 0) := by
  obtain ⟨g, cur, hA, hc0, hg, hh, hc⟩ := h.blk (by omega)
  have hcap := h.caps
  have hm := hcap.2
  unfold maxLen at hm
  refine ⟨some ⟨g, 3, none⟩, fun V => ?_, ⟨fun _ => ⟨g, 3, cur, rfl, hg, hh, fun j u hu => ?_⟩, ?_, by rw [List.length_eraseIdx_of_lt (by omega)]; omega, by unfold maxLen; omega⟩⟩
  · have hz := Try.sizeOf81 V
    have hr := run_slice_l (P := Try.prog) V 46 A n c (by kernel_rfl) .i64 (1 : Int) (by omega) (by omega)
    rw [show Try.prog.elem 46 = 81 by kernel_rfl, hz] at hr
    rw [hr, hA]
    simp [Result.andThen, sliced, add_plain', show ¬ c = 1 by omega]
  · have h3 := h.txs.three
    refine hc (3 + j) u ?_
    rw [List.eraseIdx_zero, ← List.drop_one, drop_flat3 h3, List.getElem?_drop] at hu
    exact hu
  · refine (h.txs.erase 0).mono (fun k hk _ => ⟨hk.1, fun o e => hk.2 ⟨hc0, ?_⟩⟩)
    injection e with e
    injection e with e _ _
    rw [hA, e]
theorem pcs_put {l : List (Option (List UInt8))} {cur : Array Value} {i n : Nat} {b : List UInt8} (hn : l.length = n) (hi : i < n) (hs : n * 2 ≤ cur.size) (h : cur.toList.take (n * 2) = pcs l) :
    (midRow cur (i * 2) #[.bool true, .string ⟨b.toArray⟩]).toList.take (n * 2) = pcs (l.set i (some b)) := by
  have hf : i * 2 + (#[Value.bool true, .string ⟨b.toArray⟩] : Array Value).size ≤ cur.size := by simp only [List.size_toArray, List.length_cons, List.length_nil]; omega
  apply List.ext_getElem?
  intro x
  by_cases hx : x < n * 2
  · rw [List.getElem?_take, if_pos hx, Array.getElem?_toList]
    by_cases e : x / 2 = i
    · have hsm : (l.set i (some b))[i]? = some (some b) := by rw [List.getElem?_set_self (by omega)]
      obtain ⟨h1, h2⟩ := pcs_at hsm
      rcases Nat.mod_two_eq_zero_or_one x with hm | hm
      · have ex : x = i * 2 + 0 := by omega
        rw [ex, midRow_in hf (by simp), Nat.add_zero, h1]
        rfl
      · have ex : x = i * 2 + 1 := by omega
        rw [ex, midRow_in hf (by simp), h2]
        rfl
    · rw [midRow_out hf (by simp only [List.size_toArray, List.length_cons, List.length_nil]; omega)]
      obtain ⟨a, ha⟩ : ∃ a, l[x / 2]? = some a := ⟨_, List.getElem?_eq_getElem (by omega)⟩
      have hsm : (l.set i (some b))[x / 2]? = some a := by rw [List.getElem?_set_ne (fun e2 => e e2.symm), ha]
      obtain ⟨h1, h2⟩ := pcs_at hsm
      obtain ⟨g1, g2⟩ := pcs_at ha
      have hc : ∀ y, y < n * 2 → cur[y]? = (pcs l)[y]? := fun y hy => by rw [← h, List.getElem?_take, if_pos hy, Array.getElem?_toList]
      rw [hc x hx]
      rcases Nat.mod_two_eq_zero_or_one x with hm | hm
      · have ex : x = x / 2 * 2 := by omega
        rw [ex, g1, h1]
      · have ex : x = x / 2 * 2 + 1 := by omega
        rw [ex, g2, h2]
  · rw [List.getElem?_take, if_neg hx, List.getElem?_eq_none (by rw [pcs_len, List.length_set]; omega)]
theorem LOff.rt {S : Nat → Prop} {w W : World} {A : Option Addr} {c : Nat} {css : List (List Value)} {T : List Tx} (h : LOff S w W A c css T) : RT W (RZ S w) (.slice A T.length c) T := by
  refine ⟨A, c, css, rfl, fun hp => ?_, h.txs.mono (fun k hk _ => hk.1), h.cap⟩
  obtain ⟨g, o, cur, hA, hg, hh, hc⟩ := h.row (by rw [h.txs.flat] at hp; omega)
  exact ⟨g, o, hA, ⟨.inr hg.1, hg.2⟩, hh.lt, fun j u hu => (hh.cell _).trans (hc j u hu)⟩
/-- A text is stored back at its place. -/
theorem LOff.set {S : Nat → Prop} {w W W' : World} {g o c i : Nat} {css : List (List Value)} {T : List Tx} {t : Tx} {x0 x1 x2 : Value} {cur : Array Value} (h : LOff S w W (some ⟨g, o, none⟩) c css T) (hi : i < T.length) (hg : Hld W g 81 cur) (hgn : New w g ∧ ¬ (w.heap.size ≤ g ∧ g < w.heap.size + 3)) (hc : ∀ (j : Nat) (u : Value), css.flatten[j]? = some u → cur[o + j]? = some u)
    (hf : o + i * 3 + (#[x0, x1, x2] : Array Value).size ≤ cur.size) (hg' : Hld W' g 81 (midRow cur (o + i * 3) #[x0, x1, x2])) (ho : Only (fun k => k = g) W W') (ht : RTx W' (fun b => RZ S w b ∧ ∀ o', (some ⟨g, o, none⟩ : Option Addr) ≠ some ⟨b, o', none⟩) [x0, x1, x2] t) : LOff S w W' (some ⟨g, o, none⟩) c (css.set i [x0, x1, x2]) (T.set i t) := by
  have h3 := h.txs.three
  have h3' : ∀ cs ∈ css.set i [x0, x1, x2], cs.length = 3 := fun cs hm => by
    rcases List.mem_or_eq_of_mem_set hm with hm | rfl
    · exact h3 cs hm
    · rfl
  refine ⟨fun _ => ⟨g, o, _, rfl, hgn, hg', fun j u hu => ?_⟩, ?_, by rw [List.length_set]; exact h.cap⟩
  · have hfl := flat_lenG h3'
    rw [List.length_set] at hfl
    have hj := (List.getElem?_eq_some_iff.1 hu).1
    have hdm : j / 3 * 3 + j % 3 = j := by omega
    have hq : j / 3 < css.length := by omega
    have hr : j % 3 < 3 := Nat.mod_lt _ (by omega)
    obtain ⟨cs, hcs⟩ : ∃ cs, (css.set i [x0, x1, x2])[j / 3]? = some cs := ⟨_, List.getElem?_eq_getElem (by simpa using hq)⟩
    have e1 := flat_atg h3' hcs hr
    rw [hdm, hu] at e1
    by_cases e : j / 3 = i
    · rw [← e, List.getElem?_set_self hq] at hcs
      injection hcs with hcs
      subst hcs
      have hin := midRow_in (cur := cur) (off := o + i * 3) hf (j := j % 3) (by simp only [List.size_toArray, List.length_cons, List.length_nil]; omega)
      rw [show o + j = o + i * 3 + j % 3 by omega, hin]
      rw [e1]
      simp
    · rw [List.getElem?_set_ne (fun e2 => e e2.symm)] at hcs
      have e2 := flat_atg h3 hcs hr
      rw [hdm] at e2
      rw [midRow_out hf (by simp only [List.size_toArray, List.length_cons, List.length_nil]; omega)]
      exact hc j u (by rw [e2, ← e1])
  · exact (h.txs.only ho (fun k hk e => by have e : k = g := e; exact hk.2 o (by rw [e]))).set hi ht
theorem left_pos {t : Tx} {k : Nat} (hk : k < t.pcs.length) (h : t.has k = false) : t.left ≠ 0 := by
  have h1 := Tx.has_false hk h
  have h2 := List.mem_of_getElem? h1
  have : 0 < t.left := by
    unfold Tx.left
    exact List.countP_pos_iff.2 ⟨none, h2, rfl⟩
  omega
theorem left_zero {t : Tx} (h : ∀ k, k < t.pcs.length → t.has k = true) : t.left = 0 := by
  unfold Tx.left
  rw [List.countP_eq_zero]
  intro a ha
  obtain ⟨i, hi, rfl⟩ := List.mem_iff_getElem.1 ha
  have := h i hi
  unfold Tx.has at this
  rw [List.getElem?_eq_getElem hi] at this
  cases hx : t.pcs[i] with
  | none => rw [hx] at this; cases this
  | some b => simp
def Tx.upto (t : Tx) (k : Nat) : List UInt8 := ((List.range k).map t.piece).flatten
theorem Tx.upto_succ (t : Tx) (k : Nat) : t.upto (k + 1) = t.upto k ++ t.piece k := by
  unfold Tx.upto
  rw [List.range_succ, List.map_append, List.flatten_append]
  simp
theorem Tx.upto_all (t : Tx) : t.upto t.pcs.length = t.whole := by
  unfold Tx.upto Tx.whole
  congr 1
  apply List.ext_getElem?
  intro i
  rw [List.getElem?_map, List.getElem?_map]
  by_cases hi : i < t.pcs.length
  · rw [List.getElem?_range hi, List.getElem?_eq_getElem hi]
    unfold Tx.piece
    rw [Option.map_some, List.getElem?_eq_getElem hi]
    rfl
  · rw [List.getElem?_eq_none (by simp; omega), List.getElem?_eq_none (by omega)]
    rfl
theorem str_app (a b : List UInt8) : (⟨a.toArray⟩ : ByteArray) ++ ⟨b.toArray⟩ = ⟨(a ++ b).toArray⟩ := by
  apply ByteArray.ext
  simp
/-- What Add hands back. -/
def RAddAns (r : Jn × Option (List UInt8) × Int) (S : Nat → Prop) (w : World) (e : Ending) (w' : World) : Prop := ∃ v, e = .returned (.tuple #[v, .string ⟨(r.2.1.getD []).toArray⟩, .bool r.2.1.isSome, .int .i64 r.2.2]) ∧ RJ w' (fun b => S b ∨ New w b) v r.1
theorem jadd_bad {J : Jn} {frm : Int} {p : Pt} (h : p.may = false ∨ ¬ frm < 64) : jadd J frm p = (J, none, 2) := by
  unfold jadd
  rw [if_neg]
  rcases h with h | h
  · rw [h]; simp
  · simp [h]
set_option maxHeartbeats 16000000 in
theorem radd_run (S Sv : Nat → Prop) (v : Value) (J : Jn) (frm : Int) (p : Pt) (pv : Value) (w : World) (h : RJ w S v J) (hok : J.Ok) (hf0 : 0 ≤ frm) (hlost : J.lost ≤ 1000000) (hv : BsAt w Sv pv p.bs) (hSv : ∀ k, Sv k → k < w.heap.size) (hS : ∀ k, S k → k < w.heap.size) :
    Calls Try.prog 28 #[v, .int .u16 frm, .agg #[.int .i64 p.id, .int .i64 p.idx, .int .i64 p.cnt, pv]] w fun e w' => RAddAns (jadd J frm p) S w e w' ∧ Only Noth w w' := by
  obtain ⟨u, rfl, hT⟩ := h
  obtain ⟨A0, c0, rfl, hsrc, hlc, hcm⟩ := hv
  have hbs : BsAt w Sv (.slice A0 p.bs.length c0) p.bs := ⟨A0, c0, rfl, hsrc, hlc, hcm⟩
  have hbl : p.bs.length ≤ maxLen := by omega
  obtain ⟨W0, hW0⟩ : ∃ W, ((w.alloc (.cells #[u, .int .i64 J.lost] 48)).alloc (.cells #[.int .i64 p.id, .int .i64 p.idx, .int .i64 p.cnt, .slice A0 p.bs.length c0] 33)).alloc (.cells #[.slice none 0 0, .int .i64 0] 48) = W := ⟨_, rfl⟩
  have o3 : Only Noth w W0 := by rw [← hW0]; exact (((Only.refl Noth w).alloc _).alloc _).alloc _
  have RS := Lib.hid (show RSt S Sv w W0 p (.slice A0 p.bs.length c0) u J.lost from by
    refine ⟨?_, ?_, ?_, hbs.noth o3, o3, by rw [← hW0]; simp⟩
    · rw [← hW0]; exact ((Hld.new w 48 _).alloc _).alloc _
    · have := (Hld.new (w.alloc (.cells #[u, .int .i64 J.lost] 48)) 33 #[.int .i64 p.id, .int .i64 p.idx, .int .i64 p.cnt, .slice A0 p.bs.length c0]).alloc (.cells #[.slice none 0 0, .int .i64 0] 48)
      rw [hW0] at this
      simpa using this
    · have := Hld.new ((w.alloc (.cells #[u, .int .i64 J.lost] 48)).alloc (.cells #[.int .i64 p.id, .int .i64 p.idx, .int .i64 p.cnt, .slice A0 p.bs.length c0] 33)) 48 #[.slice none 0 0, .int .i64 0]
      rw [hW0] at this
      simpa using this)
  have HT := Lib.hid ((hT.only o3 (fun _ _ h => h)).mono (fun k hk _ => (⟨.inl hk, fun h => by have := hS k hk; omega⟩ : RZ S w k)) : RT W0 (RZ S w) u J.T)
  have HSv := Lib.hid hSv
  have hsh : ∃ A c, u = .slice A J.T.length c := by obtain ⟨A, c, _, h, _⟩ := hT; exact ⟨A, c, h⟩
  obtain ⟨A, c, rfl⟩ := hsh
  have HOK := Lib.hid hok
  have HO3 := Lib.hid o3
  obtain ⟨⟨m0, m1⟩, k0, k1, k2, k3⟩ := RS.out.cells
  have hJ16 : J.T.length ≤ 16 := hok.len
  clear hT hsrc hlc hcm hbs hok o3 hSv hS
  go_enter Try.func28, Try.ntmps28
  go_wp2_with fail
  refine (rmay_run p A0 c0 hbl _).mono ?_
  rintro e w1 ⟨rfl, ho⟩
  replace RS := Lib.hid (RS.out.noth ho)
  replace HT := Lib.hid (HT.out.only ho (fun _ _ h => h))
  clear ho m0 m1 k0 k1 k2 k3 hW0 HO3
  obtain ⟨⟨m0, m1⟩, k0, k1, k2, k3⟩ := RS.out.cells
  obtain ⟨mb, hmb⟩ : ∃ mb, p.may = mb := ⟨_, rfl⟩
  have HM := Lib.hid hmb
  rw [hmb]
  clear hmb
  by_cases hbad : mb = false ∨ ¬ frm < 64
  · have HJ := Lib.hid (jadd_bad (J := J) (frm := frm) (p := p) (by rw [HM.out]; exact hbad))
    have hret : ∀ W : World, Only (fun k => k = w.heap.size + 2) w1 W → RAddAns (jadd J frm p) S w (.returned (.tuple #[.agg #[.slice A J.T.length c, .int .i64 J.lost], .string ⟨#[]⟩, .bool false, .int .i64 2])) W ∧ Only Noth w W := by
      intro W ho
      rw [HJ.out]
      exact ⟨⟨_, rfl, _, rfl, (HT.out.only ho (fun k hk e => hk.2 (by omega))).mono (fun k hk _ => hk.1)⟩, RS.out.only.trans ho (fun j hj hl => by omega)⟩
    have HRET := Lib.hid hret
    clear hret
    cases mb
    · go_wp2_with (refine wpList_store_whole rfl rfl 48 (.tmp 6) (.tmp 22) rfl (w.heap.size + 2) rfl _ rfl 48 _ RS.out.res rfl (by simp [Value.oneCell']) (by kernel_rfl) ?_; intro w13 gr ho13 _; have OR := Lib.hid ho13; have y0 : w13.cell? ⟨w.heap.size + 1 + 1, 0, none⟩ = some (.slice A J.T.length c) := gr.cell 0; have y1 : w13.cell? ⟨w.heap.size + 1 + 1, 1, none⟩ = some (.int .i64 J.lost) := gr.cell 1; clear gr ho13)
      refine bodyPost_ret (v := .tuple #[.agg #[.slice A J.T.length c, .int .i64 J.lost], .string ⟨#[]⟩, .bool false, .int .i64 2]) (by simp [results, Try.results28, go_sem, y0, y1]) rfl ?_
      exact HRET.out _ OR.out
    · have hbig : (64 : Int) ≤ frm := by simpa using hbad
      go_wp2_with (refine wpList_store_whole rfl rfl 48 (.tmp 6) (.tmp 22) rfl (w.heap.size + 2) rfl _ rfl 48 _ RS.out.res rfl (by simp [Value.oneCell']) (by kernel_rfl) ?_; intro w13 gr ho13 _; have OR := Lib.hid ho13; have y0 : w13.cell? ⟨w.heap.size + 1 + 1, 0, none⟩ = some (.slice A J.T.length c) := gr.cell 0; have y1 : w13.cell? ⟨w.heap.size + 1 + 1, 1, none⟩ = some (.int .i64 J.lost) := gr.cell 1; clear gr ho13)
      refine bodyPost_ret (v := .tuple #[.agg #[.slice A J.T.length c, .int .i64 J.lost], .string ⟨#[]⟩, .bool false, .int .i64 2]) (by simp [results, Try.results28, go_sem, y0, y1]) rfl ?_
      exact HRET.out _ OR.out
  have hmt : mb = true := by
    cases mb
    · exact absurd (.inl rfl) hbad
    · rfl
  subst hmt
  have hf64 : frm < 64 := by
    by_cases h : frm < 64
    · exact h
    · exact absurd (.inr h) hbad
  clear hbad
  have hp := Pt.may_iff.1 HM.out
  obtain ⟨_, _, hc1, hc64, hi0, hic, hb8⟩ := hp
  go_wp2_with fail
  refine (rfind_run (RZ S w) _ J frm p.id _ ⟨_, rfl, HT.out⟩ (by omega)).mono ?_
  rintro e w2 ⟨rfl, ho⟩
  replace RS := Lib.hid (RS.out.noth ho)
  replace HT := Lib.hid (HT.out.only ho (fun _ _ h => h))
  clear ho m0 m1 k0 k1 k2 k3
  obtain ⟨⟨m0, m1⟩, k0, k1, k2, k3⟩ := RS.out.cells
  obtain ⟨cn, hcn⟩ : ∃ cn : Nat, p.cnt = (cn : Int) := ⟨p.cnt.toNat, by omega⟩
  obtain ⟨ix, hix⟩ : ∃ ix : Nat, p.idx = (ix : Int) := ⟨p.idx.toNat, by omega⟩
  rw [hcn] at k2 hc1 hc64 hic
  rw [hix] at k1 hi0 hic
  have HCN := Lib.hid hcn
  have HIX := Lib.hid hix
  obtain ⟨f, hf⟩ : ∃ f, J.find frm p.id = f := ⟨_, rfl⟩
  rw [hf]
  have HF := Lib.hid hf
  clear hf hcn hix
  go_upto_region 4 with fail
  have FT := Lib.hid (show J.fits frm p.id cn = true ↔ ∃ t, J.T[f]? = some t ∧ t.pcs.length = cn by rw [← HF.out]; exact Jn.fits_iff)
  obtain ⟨q, hq⟩ : ∃ q, J.fits frm p.id cn = q := ⟨_, rfl⟩
  rw [hq] at FT
  have HQ := Lib.hid hq
  clear hq
  go_cut [10, 41] from 15 to 41 (fun s10 s41 W => s10 = .int .i64 (placeOf f J.T.length) ∧ s41 = .bool (decide (f < J.T.length) && !q) ∧ Only Noth w2 W)
  case first =>
    by_cases hlt : f < J.T.length
    · have hpl : placeOf f J.T.length = (f : Int) := by unfold placeOf; rw [if_pos hlt]
      rw [hpl]
      have HPL := Lib.hid hpl
      obtain ⟨t, ht⟩ : ∃ t, J.T[f]? = some t := ⟨_, List.getElem?_eq_getElem hlt⟩
      obtain ⟨b, o, B, d, hA, _, hb, ⟨_, _, c2⟩, _, _, _⟩ := HT.out.get ht
      subst hA
      have hf0 : (0 : Int) ≤ f := by omega
      have hfl : (f : Int) < J.T.length := by omega
      have hq2 : (!decide ((t.pcs.length : Int) = (cn : Int))) = (decide (f < J.T.length) && !q) := by
        have := FT.out
        rw [ht] at this
        have h2 : (q = true ↔ t.pcs.length = cn) := by rw [this]; exact ⟨fun ⟨t', e, h⟩ => by injection e with e; rw [e]; exact h, fun h => ⟨t, rfl, h⟩⟩
        cases q
        · have h3 : ¬ t.pcs.length = cn := fun h => by have := h2.2 h; cases this
          have h4 : ¬ (t.pcs.length : Int) = (cn : Int) := by omega
          simp [hlt, h4]
        · have h3 := h2.1 rfl
          simp [h3]
      have HQ2 := Lib.hid hq2
      have C2 := Lib.hid c2
      have HBL := Lib.hid hb
      clear hq2 c2 hb ht hpl
      refine wp_region_N Noth (by kernel_rfl) ?_
      refine wpN_take (i := 0) (d := some 28) rfl rfl (by kernel_rfl) (by kernel_rfl) (by kernel_rfl) (fun _ _ _ h => h) (sure_value (v := .int .i64 (f : Int)) (by rfl) (fun v1 h1 => by first | rfl | (go_simp; done) | (go_simp; intro h9; exact absurd h9 (by omega)) | (go_simp; assumption))) (Only.refl _ _) ?_
      simp only [Act.put, List.setIfInBounds_toArray, List.set_cons_zero, List.set_cons_succ]
      refine wpN_take (i := 1) (d := some 29) rfl rfl (by kernel_rfl) (by kernel_rfl) (by kernel_rfl) (fun _ _ _ h => h) (sure_value (v := .bool true) (by rfl) (fun v1 h1 => by first | rfl | (go_simp; done) | (go_simp; intro h9; exact absurd h9 (by omega)) | (go_simp; assumption))) (Only.refl _ _) ?_
      simp only [Act.put, List.setIfInBounds_toArray, List.set_cons_zero, List.set_cons_succ]
      refine wpN_take (i := 2) (d := some 30) rfl rfl (by kernel_rfl) (by kernel_rfl) (by kernel_rfl) (fun _ _ _ h => h) (sure_value (v := .bool true) (by rfl) (fun v1 h1 => by first | rfl | (go_simp; done) | (go_simp; intro h9; exact absurd h9 (by omega)) | (go_simp; assumption))) (Only.refl _ _) ?_
      simp only [Act.put, List.setIfInBounds_toArray, List.set_cons_zero, List.set_cons_succ]
      refine wpN_take (i := 3) (d := some 31) rfl rfl (by kernel_rfl) (by kernel_rfl) (by kernel_rfl) (fun _ _ _ h => h) (sure_value (v := .pointer (some ⟨w.heap.size, 0, none⟩)) (by rfl) (fun v1 h1 => by first | rfl | (go_simp; done) | (go_simp; intro h9; exact absurd h9 (by omega)) | (go_simp; assumption))) (Only.refl _ _) ?_
      simp only [Act.put, List.setIfInBounds_toArray, List.set_cons_zero, List.set_cons_succ]
      refine wpN_take (i := 4) (d := some 32) rfl rfl (by kernel_rfl) (by kernel_rfl) (by kernel_rfl) (fun _ _ _ h => h) (sure_lit (v := .slice (some ⟨b, o, none⟩) J.T.length c) (i := 0) RS.out.box.drew rfl (fun h => h) (by rfl) (fun _ h => by go_simp)) (Only.refl _ _) ?_
      simp only [Act.put, List.setIfInBounds_toArray, List.set_cons_zero, List.set_cons_succ]
      refine wpN_take (i := 5) (d := some 33) rfl rfl (by kernel_rfl) (by kernel_rfl) (by kernel_rfl) (fun _ _ _ h => h) (sure_value (v := .int .i64 (f : Int)) (by rfl) (fun v1 h1 => by first | rfl | (go_simp; done) | (go_simp; intro h9; exact absurd h9 (by omega)) | (go_simp; assumption))) (Only.refl _ _) ?_
      simp only [Act.put, List.setIfInBounds_toArray, List.set_cons_zero, List.set_cons_succ]
      refine wpN_take (i := 6) (d := some 34) rfl rfl (by kernel_rfl) (by kernel_rfl) (by kernel_rfl) (fun _ _ _ h => h) (sure_value (v := .pointer (some ⟨b, o + f * 3, none⟩)) (by rfl) (fun v1 h1 => by first | rfl | (go_simp; done) | (go_simp; intro h9; exact absurd h9 (by omega)) | (go_simp; assumption))) (Only.refl _ _) ?_
      simp only [Act.put, List.setIfInBounds_toArray, List.set_cons_zero, List.set_cons_succ]
      refine wpN_take (i := 7) (d := some 35) rfl rfl (by kernel_rfl) (by kernel_rfl) (by kernel_rfl) (fun _ _ _ h => h) (sure_value (v := .pointer (some ⟨b, o + f * 3 + 2, none⟩)) (by rfl) (fun v1 h1 => by first | rfl | (go_simp; done) | (go_simp; intro h9; exact absurd h9 (by omega)) | (go_simp; assumption))) (Only.refl _ _) ?_
      simp only [Act.put, List.setIfInBounds_toArray, List.set_cons_zero, List.set_cons_succ]
      refine wpN_take (i := 8) (d := some 36) rfl rfl (by kernel_rfl) (by kernel_rfl) (by kernel_rfl) (fun _ _ _ h => h) (sure_cellv (v := .slice B t.pcs.length d) C2.out HBL.out (fun h => h) (by rfl) (fun _ h => by go_simp)) (Only.refl _ _) ?_
      simp only [Act.put, List.setIfInBounds_toArray, List.set_cons_zero, List.set_cons_succ]
      refine wpN_take (i := 9) (d := some 37) rfl rfl (by kernel_rfl) (by kernel_rfl) (by kernel_rfl) (fun _ _ _ h => h) (sure_value (v := .int .i64 t.pcs.length) (by rfl) (fun v1 h1 => by first | rfl | (go_simp; done) | (go_simp; intro h9; exact absurd h9 (by omega)) | (go_simp; assumption))) (Only.refl _ _) ?_
      simp only [Act.put, List.setIfInBounds_toArray, List.set_cons_zero, List.set_cons_succ]
      refine wpN_take (i := 10) (d := some 38) rfl rfl (by kernel_rfl) (by kernel_rfl) (by kernel_rfl) (fun _ _ _ h => h) (sure_value (v := .pointer (some ⟨w.heap.size + 1, 2, none⟩)) (by rfl) (fun v1 h1 => by first | rfl | (go_simp; done) | (go_simp; intro h9; exact absurd h9 (by omega)) | (go_simp; assumption))) (Only.refl _ _) ?_
      simp only [Act.put, List.setIfInBounds_toArray, List.set_cons_zero, List.set_cons_succ]
      refine wpN_take (i := 11) (d := some 39) rfl rfl (by kernel_rfl) (by kernel_rfl) (by kernel_rfl) (fun _ _ _ h => h) (sure_lit (v := .int .i64 (cn : Int)) (i := 2) RS.out.part.drew (by rw [← HCN.out]; rfl) (fun h => h) (by rfl) (fun _ h => by go_simp)) (Only.refl _ _) ?_
      simp only [Act.put, List.setIfInBounds_toArray, List.set_cons_zero, List.set_cons_succ]
      refine wpN_take (i := 12) (d := some 40) rfl rfl (by kernel_rfl) (by kernel_rfl) (by kernel_rfl) (fun _ _ _ h => h) (sure_value (v := .bool (!decide ((t.pcs.length : Int) = (cn : Int)))) (by rfl) (fun v1 h1 => by first | rfl | (go_simp; done) | (go_simp; intro h9; exact absurd h9 (by omega)) | (go_simp; assumption))) (Only.refl _ _) ?_
      simp only [Act.put, List.setIfInBounds_toArray, List.set_cons_zero, List.set_cons_succ]
      refine wpN_take (i := 13) (d := some 41) rfl rfl (by kernel_rfl) (by kernel_rfl) (by kernel_rfl) (fun _ _ _ h => h) (sure_value (v := .bool (!decide ((t.pcs.length : Int) = (cn : Int)))) (by rfl) (fun v1 h1 => by first | rfl | (go_simp; done) | (go_simp; intro h9; exact absurd h9 (by omega)) | (go_simp; assumption))) (Only.refl _ _) ?_
      simp only [Act.put, List.setIfInBounds_toArray, List.set_cons_zero, List.set_cons_succ]
      refine wpN_done (by kernel_rfl) (fun w3 ho => ?_) _
      go_wp2_with fail
      go_meet
      case rel => exact ⟨congrArg (Value.int .i64) HPL.out.symm, congrArg Value.bool HQ2.out, Only.undrew ho⟩
    · have hpl : placeOf f J.T.length = -1 := by unfold placeOf; rw [if_neg hlt]
      rw [hpl]
      have HPL := Lib.hid hpl
      have hqd : (decide (f < J.T.length) && !q) = false := by simp [hlt]
      have HQD := Lib.hid hqd
      clear hqd hpl
      refine wp_region_N Noth (by kernel_rfl) ?_
      refine wpN_take (i := 0) (d := some 28) rfl rfl (by kernel_rfl) (by kernel_rfl) (by kernel_rfl) (fun _ _ _ h => h) (sure_value (v := .int .i64 (-1)) (by rfl) (fun v1 h1 => by first | rfl | (go_simp; done) | (go_simp; intro h9; exact absurd h9 (by omega)) | (go_simp; assumption))) (Only.refl _ _) ?_
      simp only [Act.put, List.setIfInBounds_toArray, List.set_cons_zero, List.set_cons_succ]
      refine wpN_take (i := 1) (d := some 29) rfl rfl (by kernel_rfl) (by kernel_rfl) (by kernel_rfl) (fun _ _ _ h => h) (sure_value (v := .bool false) (by rfl) (fun v1 h1 => by first | rfl | (go_simp; done) | (go_simp; intro h9; exact absurd h9 (by omega)) | (go_simp; assumption))) (Only.refl _ _) ?_
      simp only [Act.put, List.setIfInBounds_toArray, List.set_cons_zero, List.set_cons_succ]
      refine wpN_take (i := 2) (d := some 30) rfl rfl (by kernel_rfl) (by kernel_rfl) (by kernel_rfl) (fun _ _ _ h => h) (sure_value (v := .bool false) (by rfl) (fun v1 h1 => by first | rfl | (go_simp; done) | (go_simp; intro h9; exact absurd h9 (by omega)) | (go_simp; assumption))) (Only.refl _ _) ?_
      simp only [Act.put, List.setIfInBounds_toArray, List.set_cons_zero, List.set_cons_succ]
      refine wpN_take (i := 3) (d := some 31) rfl rfl (by kernel_rfl) (by kernel_rfl) (by kernel_rfl) (fun _ _ _ h => h) (sure_skip (by rfl)) (Only.refl _ _) ?_
      simp only [Act.put, List.setIfInBounds_toArray, List.set_cons_zero, List.set_cons_succ]
      refine wpN_take (i := 4) (d := some 32) rfl rfl (by kernel_rfl) (by kernel_rfl) (by kernel_rfl) (fun _ _ _ h => h) (sure_skip (by rfl)) (Only.refl _ _) ?_
      simp only [Act.put, List.setIfInBounds_toArray, List.set_cons_zero, List.set_cons_succ]
      refine wpN_take (i := 5) (d := some 33) rfl rfl (by kernel_rfl) (by kernel_rfl) (by kernel_rfl) (fun _ _ _ h => h) (sure_skip (by rfl)) (Only.refl _ _) ?_
      simp only [Act.put, List.setIfInBounds_toArray, List.set_cons_zero, List.set_cons_succ]
      refine wpN_take (i := 6) (d := some 34) rfl rfl (by kernel_rfl) (by kernel_rfl) (by kernel_rfl) (fun _ _ _ h => h) (sure_skip (by rfl)) (Only.refl _ _) ?_
      simp only [Act.put, List.setIfInBounds_toArray, List.set_cons_zero, List.set_cons_succ]
      refine wpN_take (i := 7) (d := some 35) rfl rfl (by kernel_rfl) (by kernel_rfl) (by kernel_rfl) (fun _ _ _ h => h) (sure_skip (by rfl)) (Only.refl _ _) ?_
      simp only [Act.put, List.setIfInBounds_toArray, List.set_cons_zero, List.set_cons_succ]
      refine wpN_take (i := 8) (d := some 36) rfl rfl (by kernel_rfl) (by kernel_rfl) (by kernel_rfl) (fun _ _ _ h => h) (sure_skip (by rfl)) (Only.refl _ _) ?_
      simp only [Act.put, List.setIfInBounds_toArray, List.set_cons_zero, List.set_cons_succ]
      refine wpN_take (i := 9) (d := some 37) rfl rfl (by kernel_rfl) (by kernel_rfl) (by kernel_rfl) (fun _ _ _ h => h) (sure_skip (by rfl)) (Only.refl _ _) ?_
      simp only [Act.put, List.setIfInBounds_toArray, List.set_cons_zero, List.set_cons_succ]
      refine wpN_take (i := 10) (d := some 38) rfl rfl (by kernel_rfl) (by kernel_rfl) (by kernel_rfl) (fun _ _ _ h => h) (sure_skip (by rfl)) (Only.refl _ _) ?_
      simp only [Act.put, List.setIfInBounds_toArray, List.set_cons_zero, List.set_cons_succ]
      refine wpN_take (i := 11) (d := some 39) rfl rfl (by kernel_rfl) (by kernel_rfl) (by kernel_rfl) (fun _ _ _ h => h) (sure_skip (by rfl)) (Only.refl _ _) ?_
      simp only [Act.put, List.setIfInBounds_toArray, List.set_cons_zero, List.set_cons_succ]
      refine wpN_take (i := 12) (d := some 40) rfl rfl (by kernel_rfl) (by kernel_rfl) (by kernel_rfl) (fun _ _ _ h => h) (sure_skip (by rfl)) (Only.refl _ _) ?_
      simp only [Act.put, List.setIfInBounds_toArray, List.set_cons_zero, List.set_cons_succ]
      refine wpN_take (i := 13) (d := some 41) rfl rfl (by kernel_rfl) (by kernel_rfl) (by kernel_rfl) (fun _ _ _ h => h) (sure_value (v := .bool false) (by rfl) (fun v1 h1 => by first | rfl | (go_simp; done) | (go_simp; intro h9; exact absurd h9 (by omega)) | (go_simp; assumption))) (Only.refl _ _) ?_
      simp only [Act.put, List.setIfInBounds_toArray, List.set_cons_zero, List.set_cons_succ]
      refine wpN_done (by kernel_rfl) (fun w3 ho => ?_) _
      go_wp2_with fail
      go_meet
      case rel => exact ⟨congrArg (Value.int .i64) HPL.out.symm, congrArg Value.bool HQD.out.symm, Only.undrew ho⟩
  case rest =>
    obtain ⟨hu10, hu41, ho⟩ := hcut
    subst hu10 hu41
    replace RS := Lib.hid (RS.out.noth ho)
    replace HT := Lib.hid (HT.out.only ho (fun _ _ h => h))
    clear ho m0 m1 k0 k1 k2 k3
    obtain ⟨⟨m0, m1⟩, k0, k1, k2, k3⟩ := RS.out.cells
    go_upto_if 41 with fail
    go_cut [10] from 15 to 48 (fun s10 W => ∃ (u1 : Value) (T1 : List Tx) (lost1 : Nat), s10 = .int .i64 (if q then (f : Int) else -1) ∧ RSt S Sv w W p (.slice A0 p.bs.length c0) u1 lost1 ∧ RT W (RZ S w) u1 T1 ∧ (q = true → T1 = J.T ∧ lost1 = J.lost ∧ f < J.T.length) ∧ (q = false → J.drop frm p.id = ⟨T1, lost1⟩))
    case first =>
      by_cases hlt : f < J.T.length
      · have hpl : placeOf f J.T.length = (f : Int) := by unfold placeOf; rw [if_pos hlt]
        rw [hpl]
        cases q
        · have hd : J.drop frm p.id = ⟨J.T.eraseIdx f, J.lost + 1⟩ := by unfold Jn.drop; rw [HF.out, if_pos hlt]
          have HD := Lib.hid hd
          have hdec : (decide (f < J.T.length) && !false) = true := by simp [hlt]
          rw [hdec]
          clear hd hpl hdec
          go_wp2_with fail
          refine (rgone_run (RZ S w) _ J f wc ⟨_, rfl, HT.out⟩ hlt (by omega)).mono ?_
          rintro e w4 ⟨⟨v4, rfl, u4, rfl, hT4⟩, ho⟩
          have RS4 := Lib.hid (RS.out.noth ho)
          have HT4 := Lib.hid (hT4.mono (fun k hk _ => by
            rcases hk with hk | hk
            · exact hk
            · have hk : wc.heap.size ≤ k := hk
              have := RS.out.size
              exact ⟨.inr (show w.heap.size ≤ k by omega), fun h => by omega⟩) : RT w4 (RZ S w) u4 (J.T.eraseIdx f))
          obtain ⟨A4, c4, rfl⟩ := hT4.shape
          obtain ⟨T4, hT4e⟩ : ∃ T4, J.T.eraseIdx f = T4 := ⟨_, rfl⟩
          simp only [hT4e] at HT4 HD ⊢
          clear ho hT4 m0 m1 k0 k1 k2 k3
          go_wp2_with (refine wpList_store_whole rfl rfl 48 (.tmp 3) (.tmp 44) rfl w.heap.size rfl _ rfl 48 _ RS4.out.box rfl (by simp [Value.oneCell']) (by kernel_rfl) ?_; intro w5 gb ho5 _; have GB := Lib.hid gb; have O5 := Lib.hid ho5; have y0 := gb.cell 0; have y1 := gb.cell 1; have y2 := gb.free 0; have y3 := gb.free 1; clear gb ho5)
          go_meet
          case rel =>
            have hb := box_set1 (m := .int .i64 ((J.lost : Int) + 1)) GB.out
            have ho := O5.out.trans ((Only.refl (fun k => k = w.heap.size) w5).setCell (p := ⟨w.heap.size, 1, none⟩) (fun _ => rfl) (.int .i64 ((J.lost : Int) + 1))) (fun _ h _ => h)
            exact ⟨_, T4, J.lost + 1, rfl, RS4.out.to HSv.out (by simpa using hb) ho, HT4.out.box ho, fun h => (by cases h), fun _ => HD.out⟩
        · have hdec : (decide (f < J.T.length) && !true) = false := by simp
          rw [hdec]
          clear hpl hdec
          go_wp2_with fail
          go_meet
          case rel => exact ⟨_, J.T, J.lost, rfl, RS.out, HT.out, fun _ => ⟨rfl, rfl, hlt⟩, fun h => (by cases h)⟩
      · have hpl : placeOf f J.T.length = -1 := by unfold placeOf; rw [if_neg hlt]
        rw [hpl]
        have hdec : (decide (f < J.T.length) && !q) = false := by simp [hlt]
        rw [hdec]
        have hqf : q = false := by
          cases q
          · rfl
          · obtain ⟨t, ht, _⟩ := FT.out.1 rfl
            exact absurd (List.getElem?_eq_some_iff.1 ht).1 hlt
        subst hqf
        have hd : J.drop frm p.id = ⟨J.T, J.lost⟩ := by unfold Jn.drop; rw [HF.out, if_neg hlt]
        have HD := Lib.hid hd
        clear hpl hdec hd
        go_wp2_with fail
        go_meet
        case rel => exact ⟨_, J.T, J.lost, rfl, RS.out, HT.out, fun h => (by cases h), fun _ => HD.out⟩
    case rest =>
      obtain ⟨u1, T1, lost1, hu10, hrs, hrt, hq1, hq0⟩ := hcut
      subst hu10
      clear RS HT m0 m1 k0 k1 k2 k3 FT
      obtain ⟨A1, c1, css1, rfl, hcs, htx, hn1, hm1⟩ := hrt
      have RS := Lib.hid hrs
      obtain ⟨⟨m0, m1⟩, k0, k1, k2, k3⟩ := RS.out.cells
      have HQ1 := Lib.hid hq1
      have HQ0 := Lib.hid hq0
      have hl1 : T1.length ≤ 16 := by
        cases q
        · have h1 := hq0 rfl
          unfold Jn.drop at h1
          split at h1
          · injection h1 with h1 h2
            rw [← h1]
            exact Nat.le_trans (List.length_eraseIdx_le _ _) hJ16
          · rw [h1] at hJ16
            exact hJ16
        · rw [(hq1 rfl).1]
          exact hJ16
      have HC := Lib.hid (hcs.src (n := T1.length) (size := 3) htx.flat (by omega))
      have HX := Lib.hid htx
      have HW3 := Lib.hid hrs.size
      obtain ⟨i0, hti, hz0, hz1, hz2⟩ := info_parts rtxinfo
      have HTI := Lib.hid hti
      have HZ0 := Lib.hid hz0
      have HZ1 := Lib.hid hz1
      have HZ2 := Lib.hid hz2
      obtain ⟨n1, hn1e⟩ : ∃ n1, T1.length = n1 := ⟨_, rfl⟩
      rw [hn1e] at HC hl1 m0 RS hn1
      have HN1 := Lib.hid hn1e
      clear hrs hcs htx hz0 hz1 hz2 hq1 hq0 hn1e
      go_upto_if 54 with (at_builtin; refine wpList_append_row _ rfl (.tmp 49) (.tmp 51) 46 rfl 81 i0 (.agg #[.int .u16 0, .int .i64 0, .slice none 0 0]) 3 40 Try.underlying46 hti HZ0.out HZ1.out HZ2.out rfl (New wc) _ _ 0 _ rfl (Row.nil _ _ _ _) A1 n1 c1 css1.flatten rfl HC.out HX.out.one (by simp only [maxLen]; omega) (by omega) ?_; intro v' w9 hrow9 ho9 hz9; have HR9 := Lib.hid hrow9; have HO9 := Lib.hid ho9; clear hrow9 ho9)
      obtain ⟨A9, c9, hv9⟩ := HR9.out.shape
      subst hv9
      have L9 := Lib.hid (show LSt S w w9 A9 c9 css1 T1 from by
        have h9 := HR9.out
        rw [Nat.zero_add, List.nil_append] at h9
        have hsz := HW3.out
        refine ⟨?_, ?_⟩
        · rw [HN1.out]
          refine h9.mono (fun k hk _ => ?_)
          have hk2 : wc.heap.size ≤ k := by rcases hk with hk | hk; exact hk; exact hk.1
          exact ⟨show w.heap.size ≤ k by omega, by omega⟩
        · refine ((HX.out.mono (fun k hk hl => (⟨hk, hl⟩ : RZ S w k ∧ k < wc.heap.size))).only HO9.out (fun k hk hn => by have hn : wc.heap.size ≤ k := hn; omega)).mono (fun k hk _ => ⟨hk.1, fun hr => ?_⟩)
          have := (h9.tightB.2 k hr).1
          have hk2 : wc.heap.size ≤ k := by rcases this with h | h; exact h; exact h.1
          omega)
      have ON9 := Lib.hid (show Only Noth wc w9 from HO9.out.mono (fun k hk hl => by have hk : wc.heap.size ≤ k := hk; omega))
      replace RS := Lib.hid (RS.out.noth ON9.out)
      clear m0 m1 k0 k1 k2 k3 HR9 HO9 HC HX HW3 hz9 ON9
      rw [Nat.zero_add]
      obtain ⟨⟨m0, m1⟩, k0, k1, k2, k3⟩ := RS.out.cells
      go_cut [10, 11] from 15 to 67 (fun s10 s11 W => ∃ (T2 : List Tx) (k2 : Nat) (A2 : Option Addr) (c2 : Nat) (css2 : List (List Value)), s10 = .int .i64 (k2 : Int) ∧ s11 = .slice A2 T2.length c2 ∧ LSt S w W A2 c2 css2 T2 ∧ RSt S Sv w W p (.slice A0 p.bs.length c0) (.slice A1 n1 c1) lost1 ∧ (q = true → T2 = T1 ∧ k2 = f) ∧ (q = false → T2 = T1 ++ [(⟨frm, p.id, List.replicate cn none⟩ : Tx)] ∧ k2 = T1.length) ∧ k2 < T2.length)
      case first =>
        cases q
        · have NB := Lib.hid (show ¬ RowB A9 c9 (w.heap.size + 1) from fun h => (L9.out.row.tightB.2 _ h).1.2 (by omega))
          go_wp2_with fail
          refine wp_region_N (RowB A9 c9) (by kernel_rfl) ?_
          refine wpN_take (i := 0) (d := some 55) rfl rfl (by kernel_rfl) (by kernel_rfl) (by kernel_rfl) (fun _ _ _ h => h) (sure_value (v := .slice A9 n1 c9) (by rfl) (fun v1 h1 => by first | rfl | (go_simp; done) | (go_simp; intro h9; exact absurd h9 (by omega)) | (go_simp; assumption))) (Only.refl _ _) ?_
          simp only [Act.put, List.setIfInBounds_toArray, List.set_cons_zero, List.set_cons_succ]
          refine wpN_take (i := 1) (d := some 56) rfl rfl (by kernel_rfl) (by kernel_rfl) (by kernel_rfl) (fun _ _ _ h => h) (sure_value (v := .int .u16 frm) (by rfl) (fun v1 h1 => by first | rfl | (go_simp; done) | (go_simp; intro h9; exact absurd h9 (by omega)) | (go_simp; assumption))) (Only.refl _ _) ?_
          simp only [Act.put, List.setIfInBounds_toArray, List.set_cons_zero, List.set_cons_succ]
          refine wpN_take (i := 2) (d := some 57) rfl rfl (by kernel_rfl) (by kernel_rfl) (by kernel_rfl) (fun _ _ _ h => h) (sure_value (v := .pointer (some ⟨w.heap.size + 1, 0, none⟩)) (by rfl) (fun v1 h1 => by first | rfl | (go_simp; done) | (go_simp; intro h9; exact absurd h9 (by omega)) | (go_simp; assumption))) (Only.refl _ _) ?_
          simp only [Act.put, List.setIfInBounds_toArray, List.set_cons_zero, List.set_cons_succ]
          refine wpN_take (i := 3) (d := some 58) rfl rfl (by kernel_rfl) (by kernel_rfl) (by kernel_rfl) (fun _ _ _ h => h) (sure_lit (v := .int .i64 p.id) (i := 0) RS.out.part.drew rfl NB.out (by rfl) (fun _ h => by go_simp)) (Only.refl _ _) ?_
          simp only [Act.put, List.setIfInBounds_toArray, List.set_cons_zero, List.set_cons_succ]
          refine wpN_take (i := 4) (d := some 59) rfl rfl (by kernel_rfl) (by kernel_rfl) (by kernel_rfl) (fun _ _ _ h => h) (sure_value (v := .pointer (some ⟨w.heap.size + 1, 2, none⟩)) (by rfl) (fun v1 h1 => by first | rfl | (go_simp; done) | (go_simp; intro h9; exact absurd h9 (by omega)) | (go_simp; assumption))) (Only.refl _ _) ?_
          simp only [Act.put, List.setIfInBounds_toArray, List.set_cons_zero, List.set_cons_succ]
          refine wpN_take (i := 5) (d := some 60) rfl rfl (by kernel_rfl) (by kernel_rfl) (by kernel_rfl) (fun _ _ _ h => h) (sure_lit (v := .int .i64 (cn : Int)) (i := 2) RS.out.part.drew (by rw [← HCN.out]; rfl) NB.out (by rfl) (fun _ h => by go_simp)) (Only.refl _ _) ?_
          simp only [Act.put, List.setIfInBounds_toArray, List.set_cons_zero, List.set_cons_succ]
          refine wpN_run1 (i := 6) (d := some 61) (fun v W => ∃ pB, v = .slice (some ⟨pB, 0, none⟩) cn cn ∧ Hld W pB 84 (pcs (List.replicate cn none)).toArray ∧ w9.heap.size ≤ pB ∧ Only Noth w9 W) (by kernel_rfl) rfl rfl (by rfl) (fun w5 h5 => ?_) ?_
          · exact ⟨_, _, makeSlice_op rfl rfl rfl (make_pieces cn (by omega) w5), ⟨w5.heap.size, rfl, Hld.new _ _ _, (Only.undrew h5).size, (Only.undrew h5).alloc _⟩, (h5.alloc _).mono (fun _ h _ => h.elim)⟩
          rintro v w6 ⟨pB, rfl, hpB, hpl, ho6⟩ h6
          simp only [Act.put, List.setIfInBounds_toArray, List.set_cons_zero, List.set_cons_succ]
          have PB := Lib.hid hpB
          have O6 := Lib.hid ho6
          clear hpB ho6
          refine wpN_take (i := 7) (d := some 62) rfl rfl (by kernel_rfl) (by kernel_rfl) (by kernel_rfl) (fun _ _ _ h => h) (sure_value (v := .agg #[.int .u16 frm, .int .i64 p.id, .slice (some ⟨pB, 0, none⟩) cn cn]) (by rfl) (fun v1 h1 => by first | rfl | (go_simp; done) | (go_simp; intro h9; exact absurd h9 (by omega)) | (go_simp; assumption))) h6 ?_
          simp only [Act.put, List.setIfInBounds_toArray, List.set_cons_zero, List.set_cons_succ]
          refine wpN_run1 (i := 8) (d := some 63) (fun v W => ∃ pC, v = .slice (some ⟨pC, 0, none⟩) 1 1 ∧ Hld W pC 81 #[.int .u16 frm, .int .i64 p.id, .slice (some ⟨pB, 0, none⟩) cn cn] ∧ Only Noth w6 W) (by kernel_rfl) rfl rfl (by rfl) (fun w5 h5 => ?_) ?_
          · exact ⟨_, _, buildSlice_op rfl rfl (build_slice_rt frm p.id (some ⟨pB, 0, none⟩) cn cn w5), ⟨w5.heap.size, rfl, Hld.new _ _ _, h5.alloc _⟩, (h6.tr h5).alloc _⟩
          rintro v w7 ⟨pC, rfl, hpC, ho7⟩ h7
          simp only [Act.put, List.setIfInBounds_toArray, List.set_cons_zero, List.set_cons_succ]
          have PC := Lib.hid hpC
          have O7 := Lib.hid (O6.out.tr ho7)
          replace PB := Lib.hid (PB.out.only ho7 (fun h => h))
          clear hpC ho7
          refine wpN_run1 (i := 9) (d := some 64) (fun v W2 => ∃ A' c' W', v = .slice A' (n1 + 1) c' ∧ Only Noth w7 W' ∧ Row W2 (Plus (RowB A9 c9) W' W2) 81 3 (.slice A' (n1 + 1) c') (n1 + 1) (css1.flatten ++ [.int .u16 frm, .int .i64 p.id, .slice (some ⟨pB, 0, none⟩) cn cn]) ∧ Only (RowB A9 c9) W' W2) (by kernel_rfl) rfl rfl (by rfl) (fun w5 h5 => ?_) ?_
          · have hr9 := L9.out.row.tightB.1
            rw [HN1.out] at hr9
            obtain ⟨v', w8, hr, hrow, ho, _⟩ := run_append_row (P := Try.prog) w5 46 46 81 i0 (.agg #[.int .u16 0, .int .i64 0, .slice none 0 0]) 3 40 Try.underlying46 HTI.out HZ0.out HZ1.out HZ2.out rfl (RowB A9 c9) _ _ n1 _ ((hr9.only O7.out (fun _ _ h => h)).only h5 (fun _ _ h => h)) (some ⟨pC, 0, none⟩) 1 1 [.int .u16 frm, .int .i64 p.id, .slice (some ⟨pB, 0, none⟩) cn cn] ((PC.out.only h5 (fun h => h)).src3) (by intro u hu; simp at hu; rcases hu with rfl | rfl | rfl <;> rfl) (by simp only [maxLen]; omega) (by omega)
            obtain ⟨A', c', rfl⟩ := hrow.shape
            refine ⟨_, w8, app_op rfl rfl rfl hr, ⟨A', c', w5, rfl, h5, hrow, ho⟩, (h7.tr h5).trans ho (fun j hj hl => hj)⟩
          rintro v w8 ⟨A8, c8, W', rfl, h5, hrow, ho8⟩ h8
          simp only [Act.put, List.setIfInBounds_toArray, List.set_cons_zero, List.set_cons_succ]
          refine wpN_take (i := 10) (d := some 11) rfl rfl (by kernel_rfl) (by kernel_rfl) (by kernel_rfl) (fun _ _ _ h => h) (sure_value (v := .slice A8 (n1 + 1) c8) (by rfl) (fun v1 h1 => by first | rfl | (go_simp; done) | (go_simp; intro h9; exact absurd h9 (by omega)) | (go_simp; assumption))) h8 ?_
          simp only [Act.put, List.setIfInBounds_toArray, List.set_cons_zero, List.set_cons_succ]
          refine wpN_done (by kernel_rfl) (fun wa hoa => ?_) _
          have hRW := Lib.hid hrow
          have hO8 := Lib.hid (ho8.trans hoa (fun _ h _ => h.elim))
          have hOP := Lib.hid (O7.out.tr h5)
          have H5 := Lib.hid h5
          have HOA := Lib.hid hoa
          clear hrow ho8 h5 hoa h6 h7 h8
          go_wp2_with fail
          go_meet
          case rel =>
            have hsub : ∀ k, RowB A8 c8 k → RowB A9 c9 k ∨ W'.heap.size ≤ k := fun k hk => by
              have hk := (hRW.out.tightB.2 k hk).1
              rcases hk with hk | hk
              · exact .inl hk
              · exact .inr hk.1
            have hrow : Row wa (Plus (RowB A9 c9) W' w8) 81 3 (.slice A8 (n1 + 1) c8) (n1 + 1) (css1.flatten ++ [.int .u16 frm, .int .i64 p.id, .slice (some ⟨pB, 0, none⟩) cn cn]) := hRW.out.only HOA.out (fun _ _ h => h)
            have hlen : (T1 ++ [(⟨frm, p.id, List.replicate cn none⟩ : Tx)]).length = n1 + 1 := by simp [HN1.out]
            have hz9 := RS.out.size
            have hzP := hOP.out.size
            have hNB : ∀ k, RowB A9 c9 k → New w k ∧ ¬ (w.heap.size ≤ k ∧ k < w.heap.size + 3) := fun k hk => (L9.out.row.tightB.2 k hk).1
            have hpB9 : ¬ RowB A9 c9 pB := fun hk => by
              obtain ⟨_, cur, hc⟩ := L9.out.row.tightB.2 pB hk
              have h1 := (Array.getElem?_eq_some_iff.1 hc).1
              omega
            have hRS : RSt S Sv w wa p (.slice A0 p.bs.length c0) (.slice A1 n1 c1) lost1 := by
              have h1 := RS.out.noth hOP.out
              have hx : ∀ b, (w.heap.size ≤ b ∧ b < w.heap.size + 3) → ¬ RowB A9 c9 b := fun b hb hr => (hNB b hr).2 hb
              exact ⟨h1.box.only hO8.out (hx _ (by omega)), h1.part.only hO8.out (hx _ (by omega)), h1.res.only hO8.out (hx _ (by omega)), h1.bs.only hO8.out (fun k hk hr => by have := HSv.out k hk; have := (hNB k hr).1; have h3 : w.heap.size ≤ k := this; omega), h1.only.trans hO8.out (fun j hj hl => by have h3 : w.heap.size ≤ j := (hNB j hj).1; omega), Nat.le_trans h1.size hO8.out.size⟩
            refine ⟨T1 ++ [(⟨frm, p.id, List.replicate cn none⟩ : Tx)], n1, A8, c8, css1 ++ [[.int .u16 frm, .int .i64 p.id, .slice (some ⟨pB, 0, none⟩) cn cn]], rfl, by rw [hlen], ⟨?_, ?_⟩, hRS, fun h => (by cases h), fun _ => ⟨rfl, HN1.out.symm⟩, by rw [hlen]; omega⟩
            · rw [hlen]
              simp only [List.flatten_append, List.flatten_cons, List.flatten_nil, List.append_nil]
              refine hrow.mono (fun k hk _ => ?_)
              rcases hk with hk | hk
              · exact hNB k hk
              · have := hk.1
                exact ⟨show w.heap.size ≤ k by omega, by omega⟩
            · refine RTxs.snoc ?_ ⟨some ⟨pB, 0, none⟩, cn, by simp, ?_, by simp, by simp only [maxLen]; omega⟩
              · refine (((L9.out.txs.mono (fun k hk hl => (⟨hk, hl⟩ : (RZ S w k ∧ ¬ RowB A9 c9 k) ∧ k < w9.heap.size))).only hOP.out (fun _ _ h => h)).only hO8.out (fun k hk hr => hk.1.2 hr)).mono (fun k hk _ => ⟨hk.1.1, fun hr => ?_⟩)
                rcases hsub k hr with h | h
                · exact hk.1.2 h
                · have := hk.2
                  omega
              · intro hp
                have hpb := (PB.out.only H5.out (fun h => h))
                have hpl2 := hpb.lt
                have hpc := hpb.only hO8.out hpB9
                refine ⟨pB, 0, rfl, ⟨⟨.inr (show w.heap.size ≤ pB by omega), by omega⟩, fun hr => ?_⟩, hpc.lt, fun j u hu => ?_⟩
                · rcases hsub pB hr with h | h
                  · exact hpB9 h
                  · omega
                · rw [Nat.zero_add, hpc.cell j]
                  simpa using hu
        · obtain ⟨e1, e2, e3⟩ := HQ1.out rfl
          have HE := Lib.hid (show f < T1.length by rw [e1]; exact e3)
          clear e1 e2 e3
          go_wp2_with fail
          go_meet
          case rel => exact ⟨T1, f, A9, c9, css1, rfl, by rw [HN1.out], L9.out, RS.out, fun _ => ⟨rfl, rfl⟩, fun h => (by cases h), HE.out⟩
      case rest =>
        obtain ⟨T2, k2', A2, c2, css2, hu10, hu11, hls, hrs, hq1, hq0, hk2⟩ := hcut
        subst hu10 hu11
        have HQ1' := Lib.hid hq1
        have HQ0' := Lib.hid hq0
        have LS := Lib.hid hls
        replace RS := Lib.hid hrs
        have hl2 : T2.length ≤ 17 := by
          cases q
          · rw [(hq0 rfl).1]; simp; rw [HN1.out]; omega
          · rw [(hq1 rfl).1, HN1.out]; omega
        have hlq : q = true → T2.length ≤ 16 := fun h => by rw [(hq1 h).1, HN1.out]; omega
        have HLQ := Lib.hid hlq
        obtain ⟨n2, hn2⟩ : ∃ n2, T2.length = n2 := ⟨_, rfl⟩
        rw [hn2] at hl2 hk2 ⊢
        have HN2 := Lib.hid hn2
        have hl10 : lost1 ≤ 1000001 := by
          cases q
          · have h1 := HQ0.out rfl
            unfold Jn.drop at h1
            split at h1
            · injection h1 with h1 h2
              omega
            · rw [h1] at hlost
              simp only at hlost
              omega
          · rw [(HQ1.out rfl).2.1]; omega
        have hk20 : (0 : Int) ≤ k2' := by omega
        have hn20 : (0 : Int) ≤ n2 := by omega
        clear hls hrs hq1 hq0 hlq hn2 m0 m1 k0 k1 k2 k3 L9 hti
        obtain ⟨⟨m0, m1⟩, k0, k1, k2, k3⟩ := RS.out.cells
        go_upto_if 70 with fail
        go_cut [10, 11] from 15 to 78 (fun s10 s11 W => ∃ (T3 : List Tx) (k3 lost3 : Nat) (A3 : Option Addr) (c3 : Nat) (css3 : List (List Value)), s10 = .int .i64 (k3 : Int) ∧ s11 = .slice A3 T3.length c3 ∧ LOff S w W A3 c3 css3 T3 ∧ RSt S Sv w W p (.slice A0 p.bs.length c0) (.slice A1 n1 c1) lost3 ∧ ((⟨T3, lost3⟩, k3) : Jn × Nat) = (if 16 < n2 then (⟨T2.eraseIdx 0, lost1 + 1⟩, k2' - 1) else (⟨T2, lost1⟩, k2')))
        case first =>
          by_cases h16 : 16 < n2
          · have h16i : (16 : Int) < n2 := by omega
            obtain ⟨A3, hr3, hoff⟩ := LS.out.tail HN2.out (by omega)
            have HOFF := Lib.hid hoff
            clear hoff
            have hkp : 1 ≤ k2' := by
              cases q
              · have h1 := (HQ0'.out rfl)
                have h2 := HN2.out
                rw [h1.1] at h2
                simp at h2
                rw [h1.2]
                omega
              · have := HLQ.out rfl
                rw [HN2.out] at this
                omega
            have y2 := RS.out.box.free 1
            go_wp2_with fail
            go_meet
            case rel =>
              have hb := box_set1 (m := .int .i64 ((lost1 : Int) + 1)) RS.out.box
              have ho := (Only.refl (fun k => k = w.heap.size) wc).setCell (p := ⟨w.heap.size, 1, none⟩) (fun _ => rfl) (.int .i64 ((lost1 : Int) + 1))
              have hlen : (T2.eraseIdx 0).length = n2 - 1 := by rw [List.length_eraseIdx_of_lt (by rw [HN2.out]; omega), HN2.out]
              exact ⟨T2.eraseIdx 0, k2' - 1, lost1 + 1, A3, c2 - 1, css2.eraseIdx 0, by congr 1; omega, by rw [hlen], HOFF.out.only ho (fun k hk => .inl (by omega)), RS.out.to HSv.out (by simpa using hb) ho, by rw [if_pos h16]⟩
          · have h16i : ¬ (16 : Int) < n2 := by omega
            go_wp2_with fail
            go_meet
            case rel => exact ⟨T2, k2', lost1, A2, c2, css2, rfl, by rw [HN2.out], LS.out.off, RS.out, by rw [if_neg h16]⟩
        case rest =>
          obtain ⟨T3, k3, lost3, A3, c3, css3, hu10, hu11, hlo, hrs, heq⟩ := hcut
          subst hu10 hu11
          have hopen : J.open_ frm p.id cn = (⟨T3, lost3⟩, k3) := by
            rw [heq]
            unfold Jn.open_
            rw [HQ.out, HF.out]
            cases q
            · simp only [Bool.false_eq_true, if_false]
              obtain ⟨e1, e2⟩ := HQ0'.out rfl
              have e3 := HN2.out
              rw [e1] at e3
              simp at e3
              rw [HQ0.out rfl]
              unfold Jn.new
              simp only
              by_cases h16 : 16 < n2
              · rw [if_pos h16, if_pos (by omega), e1, e2, List.length_eraseIdx_of_lt (by simp)]
                simp
              · rw [if_neg h16, if_neg (by omega), e1, e2]
                simp
            · simp only [if_true]
              obtain ⟨e1, e2⟩ := HQ1'.out rfl
              obtain ⟨f1, f2, _⟩ := HQ1.out rfl
              have := HLQ.out rfl
              rw [HN2.out] at this
              rw [if_neg (by omega), e1, f1, f2, e2]
          obtain ⟨hJok, t, ht, htl, htf, htid⟩ := Jn.open_ok HOK.out frm p.id (cnt := cn) (by omega) (by omega)
          rw [hopen] at hJok ht
          simp only at ht
          have hjadd : jadd J frm p = (((⟨T3, lost3⟩ : Jn).at_ k3 ix p.bs).1, ((⟨T3, lost3⟩ : Jn).at_ k3 ix p.bs).2, 0) := by
            unfold jadd
            rw [if_pos (by simp [HM.out, hf64])]
            simp only [HCN.out, HIX.out, Int.toNat_natCast, hopen]
          have hk3 : k3 < T3.length := (List.getElem?_eq_some_iff.1 ht).1
          have hl3 : T3.length ≤ 16 := hJok.len
          have HJA := Lib.hid hjadd
          have HT3 := Lib.hid ht
          have HTL := Lib.hid htl
          have HTF := Lib.hid htf
          have HTI2 := Lib.hid htid
          have HJK := Lib.hid hJok
          obtain ⟨g, o, cur, hA, hg, hh, hc⟩ := hlo.row (by omega)
          subst hA
          obtain ⟨cs, hcs, B, d, hcse, hB, hd1, hd2⟩ := hlo.txs.2 k3 t ht
          subst hcse
          have hthree := hlo.txs.three
          have hcell : ∀ j u, [Value.int .u16 t.frm, .int .i64 t.id, .slice B t.pcs.length d][j]? = some u → j < 3 → cur[o + k3 * 3 + j]? = some u := fun j u hj h3 => by
            have := flat_atg hthree hcs h3
            rw [hj] at this
            rw [Nat.add_assoc]
            exact hc _ _ this
          have z0 := hcell 0 _ rfl (by omega)
          have z1 := hcell 1 _ rfl (by omega)
          have z2 := hcell 2 _ rfl (by omega)
          rw [htf] at z0
          rw [htid] at z1
          rw [htl] at z2 hd1
          obtain ⟨n3, hn3⟩ : ∃ n3, T3.length = n3 := ⟨_, rfl⟩
          rw [hn3] at hk3 hl3 ⊢
          have HN3 := Lib.hid hn3
          have hb0 := box_set0 (A' := some ⟨g, o, none⟩) (n' := n3) (c' := c3) hrs.box
          have ho0 := (Only.refl (fun k => k = w.heap.size) wc).setCell (p := ⟨w.heap.size, 0, none⟩) (fun _ => rfl) (.slice (some ⟨g, o, none⟩) n3 c3)
          obtain ⟨⟨m0, m1⟩, k0, k1, k2, k3'⟩ := hrs.cells
          have y2 := hrs.box.free 0
          obtain ⟨W1, hW1⟩ : ∃ W1, wc.setCell ⟨w.heap.size, 0, none⟩ (.slice (some ⟨g, o, none⟩) n3 c3) = W1 := ⟨_, rfl⟩
          rw [hW1] at hb0 ho0
          have RS1 := Lib.hid (hrs.to HSv.out hb0 ho0)
          have hlo1 := hlo.only ho0 (fun k hk => .inl (by omega))
          have LO1 := Lib.hid hlo1
          have hh1 := hh.only ho0 (fun e => by have e : g = w.heap.size := e; exact hg.2 (by omega))
          have CU := Lib.hid hh1
          have HB1 := Lib.hid (hB.only ho0 (fun k hk e => hk.1.2 (by omega)))
          have HG := Lib.hid hg
          have HCS := Lib.hid hcs
          have HC := Lib.hid hc
          have q0 : W1.cell? ⟨g, o + k3 * 3, none⟩ = some (.int .u16 frm) := (hh1.cell _).trans z0
          have q1 : W1.cell? ⟨g, o + k3 * 3 + 1, none⟩ = some (.int .i64 p.id) := (hh1.cell _).trans z1
          have q2 : W1.cell? ⟨g, o + k3 * 3 + 2, none⟩ = some (.slice B cn d) := (hh1.cell _).trans z2
          have hk30 : (0 : Int) ≤ k3 := by omega
          have hk3n : (k3 : Int) < n3 := by omega
          clear heq hopen hJok ht htl htf htid hjadd hlo hrs hh hcs hB hthree hcell z0 z1 z2 hb0 ho0 hlo1 hh1 hg hc hn3 RS LS
          go_upto_region 18 with fail
          clear m0 m1 k0 k1 k2 k3' y2 hW1
          obtain ⟨⟨m0, m1⟩, k0, k1, k2, k3'⟩ := RS1.out.cells
          go_upto_region 19 with (refine wpList_store_whole rfl rfl 81 (.tmp 12) (.tmp 84) rfl W1.heap.size rfl _ rfl 81 _ (Hld.new W1 _ _) rfl (by simp [Value.oneCell']) (by kernel_rfl) ?_; intro w5 gb ho5 hz5; have TB := Lib.hid gb; have O15 := Lib.hid ho5; have HZ5 := Lib.hid hz5; clear gb ho5 hz5)
          have ho5 : Only Noth W1 w5 := ((Only.refl Noth W1).alloc _).trans O15.out (fun j hj hl => by have hj : j = W1.heap.size := hj; omega)
          have HLT1 := Lib.hid (show g < W1.heap.size from CU.out.lt)
          have HSZ1 := Lib.hid RS1.out.size
          have OO5 := Lib.hid ho5
          have HB5 := Lib.hid ((HB1.out.mono (fun k hk hl => (⟨hk, hl⟩ : (RZ S w k ∧ ∀ o_1, some (⟨g, o, none⟩ : Addr) ≠ some ⟨k, o_1, none⟩) ∧ k < W1.heap.size))).only ho5 (fun _ _ h => h))
          have HLT5 := Lib.hid (show W1.heap.size < w5.heap.size from TB.out.lt)
          clear ho5 O15 HZ5 m0 m1 k0 k1 k2 k3' q0 q1 q2 HB1
          obtain ⟨bt, hbt⟩ : ∃ bt, W1.heap.size = bt := ⟨_, rfl⟩
          have HBT := Lib.hid hbt
          rw [hbt] at HLT1 HSZ1 TB HB5 HLT5 ⊢
          clear hbt
          obtain ⟨⟨m0, m1⟩, k0, k1, k2, k3'⟩ := (RS1.out.noth OO5.out).cells
          obtain ⟨i1, hti1, hy0, hy1, hy2⟩ := info_parts rpcinfo
          have HY0 := Lib.hid hy0
          have HY1 := Lib.hid hy1
          have HY2 := Lib.hid hy2
          have HPL := Lib.hid (HB5.out.src (n := cn) (size := 2) (by rw [pcs_len, HTL.out]) (by omega))
          have t0 : (w5.alloc (.cells #[] 84)).cell? ⟨bt, 2, none⟩ = some (.slice B cn d) := (TB.out.alloc _).cell 2
          clear hy0 hy1 hy2
          go_upto_region 20 with (at_builtin; refine wpList_append_row _ rfl (.tmp 85) (.tmp 87) 79 rfl 84 i1 (.agg #[.bool false, .string ⟨#[]⟩]) 2 24 Try.underlying79 hti1 HY0.out HY1.out HY2.out rfl (New w5) _ _ 0 _ rfl (Row.empty _ _ _ _ (some ⟨w5.heap.size, 0, none⟩)) B cn d (pcs t.pcs) rfl (HPL.out.alloc _) (pcs_one _) (by simp only [maxLen]; omega) (by omega) ?_; intro v' w9 hrow9 ho9 hz9; obtain ⟨AP, cP, hvP⟩ := hrow9.shape; subst hvP; have HR9 := Lib.hid hrow9; have HO9 := Lib.hid (show Only Noth w5 w9 from (((Only.refl Noth w5).alloc _).trans ho9 (fun j hj hl => by have hj : w5.heap.size ≤ j := hj; omega))); have HT9 := Lib.hid (TB.out.only HO9.out (fun h => h)); have s0 := HT9.out.cell 2; have s1 := HT9.out.free 2; clear hrow9 ho9 hz9)
          have TB10 := Lib.hid (show Hld (w9.setCell ⟨bt, 2, none⟩ (.slice AP cn cP)) bt 81 #[.int .u16 frm, .int .i64 p.id, .slice AP cn cP] from by simpa using HT9.out.set_ 2 (.slice AP cn cP))
          have h910 := (Only.refl (fun k => k = bt) w9).setCell (p := ⟨bt, 2, none⟩) (fun _ => rfl) (.slice AP cn cP)
          have OO10 := Lib.hid (show Only Noth W1 (w9.setCell ⟨bt, 2, none⟩ (.slice AP cn cP)) from (OO5.out.tr HO9.out).trans h910 (fun j hj hl => by have hj : j = bt := hj; have := HBT.out; omega))
          have PR10 := Lib.hid (show Row (w9.setCell ⟨bt, 2, none⟩ (.slice AP cn cP)) (fun k => bt < k) 84 2 (.slice AP cn cP) cn (pcs t.pcs) from by
            have h9 := HR9.out
            rw [Nat.zero_add, List.nil_append] at h9
            refine (h9.mono (fun k hk _ => ?_)).only h910 (fun k hk e => by have e : k = bt := e; omega)
            rcases hk with hk | hk
            · have hk : w5.heap.size ≤ k := hk
              have := HLT5.out
              omega
            · have h1 := hk.1
              simp only [World.size_alloc] at h1
              have := HLT5.out
              omega)
          obtain ⟨W10, hW10⟩ : ∃ W, w9.setCell ⟨bt, 2, none⟩ (.slice AP cn cP) = W := ⟨_, rfl⟩
          rw [hW10] at TB10 OO10 PR10 ⊢
          clear hW10 h910 HR9 HO9 HT9 s0 s1 t0 HPL HB5 TB OO5 HLT5 m0 m1 k0 k1 k2 k3'
          obtain ⟨⟨m0, m1⟩, k0, k1, k2, k3'⟩ := (RS1.out.noth OO10.out).cells
          rw [HCN.out] at k2
          rw [HIX.out] at k1
          have t2 := TB10.out.cell 2
          obtain ⟨gP, curP, hAP, hgP, hcP, hcPc⟩ : ∃ (gP : Nat) (curP : Array Value), AP = some ⟨gP, 0, none⟩ ∧ bt < gP ∧ Hld W10 gP 84 curP ∧ (cP * 2 ≤ curP.size ∧ curP.toList.take (cn * 2) = pcs t.pcs) := by
            obtain ⟨_, A', cap, hv, h1, h2, h3⟩ := PR10.out
            injection hv with e1 _ e3
            subst e1 e3
            rcases h3 with h3 | ⟨g', cur', hA', hF', hg', hc', ht'⟩
            · omega
            · exact ⟨g', cur', hA', hF', hg', hc', ht'⟩
          subst hAP
          have hcap : cn ≤ cP ∧ cP ≤ maxLen := by
            obtain ⟨_, A', cap, hv, h1, h2, _⟩ := PR10.out
            injection hv with _ _ e3
            subst e3
            exact ⟨h1, h2⟩
          have HCAP := Lib.hid hcap
          have HGP := Lib.hid hgP
          have HCP := Lib.hid hcP
          have HCPC := Lib.hid hcPc
          have hpat : ∀ k, k < cn → curP[k * 2]? = some (.bool (t.has k)) ∧ curP[k * 2 + 1]? = some (.string ⟨(t.piece k).toArray⟩) := fun k hk => by
            have e1 : t.has k = (t.pcs[k]'(by rw [HTL.out]; exact hk)).isSome := by unfold Tx.has; rw [List.getElem?_eq_getElem (by rw [HTL.out]; exact hk)]; rfl
            have e2 : t.piece k = (t.pcs[k]'(by rw [HTL.out]; exact hk)).getD [] := by unfold Tx.piece; rw [List.getElem?_eq_getElem (by rw [HTL.out]; exact hk)]; rfl
            obtain ⟨h1, h2⟩ := pcs_at (List.getElem?_eq_getElem (show k < t.pcs.length by rw [HTL.out]; exact hk))
            rw [← hcPc.2, List.getElem?_take, if_pos (by omega)] at h1 h2
            rw [e1, e2]
            exact ⟨by simpa using h1, by simpa using h2⟩
          have hixn : ix < cn := by omega
          have q0 : W10.cell? ⟨gP, ix * 2, none⟩ = some (.bool (t.has ix)) := (hcP.cell _).trans (hpat ix hixn).1
          have q1 : W10.cell? ⟨gP, ix * 2 + 1, none⟩ = some (.string ⟨(t.piece ix).toArray⟩) := (hcP.cell _).trans (hpat ix hixn).2
          clear hgP hcP hcPc hpat hcap PR10
          go_upto_if 97 with fail
          go_cut [] from 15 to 106 (fun W => ∃ curP' : Array Value, Hld W bt 81 #[.int .u16 frm, .int .i64 p.id, .slice (some ⟨gP, 0, none⟩) cn cP] ∧ Hld W gP 84 curP' ∧ cP * 2 ≤ curP'.size ∧ curP'.toList.take (cn * 2) = pcs (t.put ix p.bs).pcs ∧ Only Noth W1 W)
          case first =>
            obtain ⟨hb, hhb⟩ : ∃ hb, t.has ix = hb := ⟨_, rfl⟩
            have HHB := Lib.hid hhb
            rw [hhb] at q0 ⊢
            clear hhb
            have kc := BsAt.conv (RS1.out.bs.noth OO10.out)
            cases hb
            · have hf : ix * 2 + (#[Value.bool true, .string ⟨p.bs.toArray⟩] : Array Value).size ≤ curP.size := by simp only [List.size_toArray, List.length_cons, List.length_nil]; have := HCPC.out.1; have := HCAP.out.1; omega
              have HF2 := Lib.hid hf
              clear hf
              go_wp2_with (refine wpList_store_mid rfl rfl 84 (.tmp 106) (.tmp 105) rfl gP (ix * 2) rfl #[.bool true, .string ⟨p.bs.toArray⟩] rfl 84 curP HCP.out HF2.out (by simp [Value.oneCell']) (by kernel_rfl) ?_; intro w11 hg11 ho11 hz11; have G11 := Lib.hid hg11; have O11 := Lib.hid ho11; clear hg11 ho11 hz11)
              go_meet
              case rel =>
                refine ⟨_, TB10.out.only O11.out (fun e => by have e : bt = gP := e; have := HGP.out; omega), G11.out, by rw [midRow_size HF2.out]; exact HCPC.out.1, ?_, OO10.out.trans O11.out (fun j hj hl => by have hj : j = gP := hj; have := HGP.out; have := HBT.out; omega)⟩
                rw [Tx.put_new HHB.out]
                exact pcs_put HTL.out (by omega) (by have := HCPC.out.1; have := HCAP.out.1; omega) HCPC.out.2
            · clear kc
              go_wp2_with fail
              go_meet
              case rel => exact ⟨curP, TB10.out, HCP.out, HCPC.out.1, by rw [Tx.put_has HHB.out]; exact HCPC.out.2, OO10.out⟩
          case rest =>
            obtain ⟨curP', htb, hgp, hcp, htk, hoo⟩ := hcut
            obtain ⟨t', ht'⟩ : ∃ t', t.put ix p.bs = t' := ⟨_, rfl⟩
            rw [ht'] at htk
            have hl' : t'.pcs.length = cn := by rw [← ht', Tx.put_len]; exact HTL.out
            have hf' : t'.frm = frm := by rw [← ht', Tx.put_frm]; exact HTF.out
            have hid' : t'.id = p.id := by rw [← ht', Tx.put_id]; exact HTI2.out
            have HT' := Lib.hid ht'
            have HL' := Lib.hid hl'
            have HF' := Lib.hid hf'
            have HID' := Lib.hid hid'
            have TB := Lib.hid htb
            have GP := Lib.hid hgp
            have TK := Lib.hid htk
            have CPS := Lib.hid hcp
            have OO := Lib.hid hoo
            have CU2 := Lib.hid (CU.out.only hoo (fun h => h))
            have hfit : o + k3 * 3 + (#[Value.int .u16 frm, .int .i64 p.id, .slice (some ⟨gP, 0, none⟩) cn cP] : Array Value).size ≤ cur.size := by
              have h2 := HC.out _ _ (flat_atg LO1.out.txs.three HCS.out (j := 2) (by omega))
              have := (Array.getElem?_eq_some_iff.1 h2).1
              simp only [List.size_toArray, List.length_cons, List.length_nil]
              omega
            have HFIT := Lib.hid hfit
            clear m0 m1 k0 k1 k2 k3' q0 q1 t2 TB10 OO10 HCP HCPC ht' hl' hf' hid' hfit
            obtain ⟨⟨m0, m1⟩, k0, k1, k2, k3'⟩ := (RS1.out.noth OO.out).cells
            have b0 := htb.cell 0
            have b1 := htb.cell 1
            have b2 := htb.cell 2
            clear htb hgp hcp htk hoo
            go_upto_region 23 with (refine wpList_store_mid rfl rfl 81 (.tmp 111) (.tmp 110) rfl g (o + k3 * 3) rfl #[.int .u16 frm, .int .i64 p.id, .slice (some ⟨gP, 0, none⟩) cn cP] rfl 81 cur CU2.out HFIT.out (by simp [Value.oneCell']) (by kernel_rfl) ?_; intro w12 hg12 ho12 hz12; have G12 := Lib.hid hg12; have O12 := Lib.hid ho12; clear hg12 ho12 hz12)
            have hgb : g ≠ bt := by have := HLT1.out; omega
            have hgp : g ≠ gP := by have := HLT1.out; have := HGP.out; omega
            have TB12 := Lib.hid (TB.out.only O12.out (fun e => hgb e.symm))
            have GP12 := Lib.hid (GP.out.only O12.out (fun e => hgp e.symm))
            have RS12 := Lib.hid (show RSt S Sv w w12 p (.slice A0 p.bs.length c0) (.slice (some ⟨g, o, none⟩) n3 c3) lost3 from by
              have h1 := RS1.out.noth OO.out
              have hG := HG.out
              exact ⟨h1.box.only O12.out (fun e => hG.2 (by have e : w.heap.size = g := e; omega)), h1.part.only O12.out (fun e => hG.2 (by have e : w.heap.size + 1 = g := e; omega)), h1.res.only O12.out (fun e => hG.2 (by have e : w.heap.size + 2 = g := e; omega)), h1.bs.only O12.out (fun k hk e => by have e : k = g := e; have h2 := HSv.out k hk; have h3 : w.heap.size ≤ g := hG.1; omega), h1.only.trans O12.out (fun j hj hl => by have hj : j = g := hj; have h3 : w.heap.size ≤ g := hG.1; omega), Nat.le_trans h1.size O12.out.size⟩)
            have LO12 := Lib.hid (show LOff S w w12 (some ⟨g, o, none⟩) c3 (css3.set k3 [.int .u16 frm, .int .i64 p.id, .slice (some ⟨gP, 0, none⟩) cn cP]) (T3.set k3 t') from by
              refine (LO1.out.noth OO.out).set (by rw [HN3.out]; exact hk3) CU2.out HG.out HC.out HFIT.out G12.out O12.out ⟨some ⟨gP, 0, none⟩, cP, by rw [HL'.out, HF'.out, HID'.out], fun _ => ⟨gP, 0, rfl, ⟨⟨.inr ?_, ?_⟩, ?_⟩, GP12.out.lt, fun j u hu => ?_⟩, by rw [HL'.out]; exact HCAP.out.1, HCAP.out.2⟩
              · have := HSZ1.out; have := HGP.out; show w.heap.size ≤ gP; omega
              · have := HSZ1.out; have := HGP.out; omega
              · intro o' e
                injection e with e
                injection e with e
                exact hgp e
              · rw [Nat.zero_add, GP12.out.cell]
                rw [← TK.out, List.getElem?_take] at hu
                split at hu
                · simpa using hu
                · cases hu)
            have HPU := Lib.hid (show ∀ k, k < cn → curP'[k * 2]? = some (.bool (t'.has k)) ∧ curP'[k * 2 + 1]? = some (.string ⟨(t'.piece k).toArray⟩) from fun k hk => by
              have hkl : k < t'.pcs.length := by rw [HL'.out]; exact hk
              have e1 : t'.has k = (t'.pcs[k]'hkl).isSome := by unfold Tx.has; rw [List.getElem?_eq_getElem hkl]; rfl
              have e2 : t'.piece k = (t'.pcs[k]'hkl).getD [] := by unfold Tx.piece; rw [List.getElem?_eq_getElem hkl]; rfl
              obtain ⟨h1, h2⟩ := pcs_at (List.getElem?_eq_getElem hkl)
              rw [← TK.out, List.getElem?_take, if_pos (by omega)] at h1 h2
              rw [e1, e2]
              exact ⟨by simpa using h1, by simpa using h2⟩)
            have HAT := Lib.hid (show (⟨T3, lost3⟩ : Jn).at_ k3 ix p.bs = if t'.left = 0 then (⟨T3.eraseIdx k3, lost3⟩, some t'.whole) else (⟨T3.set k3 t', lost3⟩, none) by
              unfold Jn.at_
              simp only [HT3.out, Option.getD_some, HT'.out])
            have HSML := Lib.hid (show ∀ k, (t'.piece k).length ≤ 8192 from Tx.piece_small (by rw [← HT'.out]; exact Tx.put_small (HJK.out.all t (List.mem_of_getElem? HT3.out)).small hb8))
            have hcn0 : (0 : Int) ≤ cn := by omega
            clear hgb hgp m0 m1 k0 k1 k2 k3' b0 b1 b2 TB GP CU2 OO O12 G12 RS1 LO1 CU
            go_wp2_with fail
            go_loopw [13, 14] (fun s i W => ∃ k : Nat, k ≤ cn ∧ i = .int .i64 (k : Int) ∧ s = .string ⟨(t'.upto k).toArray⟩ ∧ (t'.upto k).length ≤ k * 8192 ∧ (∀ j, j < k → t'.has j = true) ∧ Only Noth w12 W) (fun _ i _ => cn - (RowKit.intOf i).toNat)
            case atStart => exact ⟨0, Nat.zero_le _, rfl, rfl, Nat.zero_le _, fun j hj => absurd hj (Nat.not_lt_zero _), Only.refl _ _⟩
            case round =>
              obtain ⟨k, hk, rfl, rfl, hul, hall, ho⟩ := hrel
              have HALL := Lib.hid hall
              have OK := Lib.hid ho
              have hk0 : (0 : Int) ≤ k := by omega
              obtain ⟨⟨m0, m1⟩, _⟩ := (RS12.out.noth ho).cells
              have b2 := (TB12.out.only ho (fun h => h)).cell 2
              have HUP := Lib.hid hul
              clear hall ho hul
              by_cases hkn : k < cn
              · have hk1 : (k : Int) < cn := by omega
                obtain ⟨hb, hhb⟩ : ∃ hb, t'.has k = hb := ⟨_, rfl⟩
                obtain ⟨p0, p1⟩ := HPU.out k hkn
                have q0 := ((GP12.out.only OK.out (fun h => h)).cell _).trans p0
                have q1 := ((GP12.out.only OK.out (fun h => h)).cell _).trans p1
                have HHB := Lib.hid hhb
                rw [hhb] at q0
                clear hhb p0 p1
                cases hb
                · clear q1
                  have RR := Lib.hid (RS12.out.noth OK.out).res
                  go_wp2_with (refine wpList_store_whole rfl rfl 48 (.tmp 6) (.tmp 126) rfl (w.heap.size + 2) rfl _ rfl 48 _ RR.out rfl (by simp [Value.oneCell']) (by kernel_rfl) ?_; intro w13 gr ho13 _; have OR := Lib.hid ho13; have y0 : w13.cell? ⟨w.heap.size + 1 + 1, 0, none⟩ = some (.slice (some ⟨g, o, none⟩) n3 c3) := gr.cell 0; have y1 : w13.cell? ⟨w.heap.size + 1 + 1, 1, none⟩ = some (.int .i64 lost3) := gr.cell 1; clear gr ho13)
                  refine bodyPost_ret (v := .tuple #[.agg #[.slice (some ⟨g, o, none⟩) n3 c3, .int .i64 lost3], .string ⟨#[]⟩, .bool false, .int .i64 0]) (by simp [results, Try.results28, go_sem, y0, y1]) rfl ?_
                  rw [HJA.out, HAT.out, if_neg (left_pos (by rw [HL'.out]; exact hkn) HHB.out)]
                  have hrt := ((LO12.out.noth OK.out).rt.only OR.out (fun k hk e => hk.2 (by have e : k = w.heap.size + 2 := e; omega))).mono (S' := fun b => S b ∨ New w b) (fun k hk _ => hk.1)
                  rw [List.length_set, HN3.out] at hrt
                  exact ⟨⟨_, rfl, _, rfl, hrt⟩, (RS12.out.noth OK.out).only.trans OR.out (fun j hj hl => by have hj : j = w.heap.size + 2 := hj; omega)⟩
                · have hadd := str_app (t'.upto k) (t'.piece k)
                  rw [← Tx.upto_succ] at hadd
                  have hsz : (t'.upto k).length + (t'.piece k).length ≤ 9223372036854775807 := by have := HUP.out; have := HSML.out k; omega
                  go_wp2_with fail
                  go_roundw
                  case rel =>
                    refine ⟨k + 1, by omega, by go_num, rfl, ?_, fun j hj => ?_, OK.out⟩
                    · rw [Tx.upto_succ, List.length_append]
                      have := HUP.out
                      have := HSML.out k
                      omega
                    · by_cases e : j = k
                      · rw [e]; exact HHB.out
                      · exact HALL.out j (by omega)
                  case measure => simp [RowKit.intOf]; omega
              · obtain rfl : k = cn := by omega
                have hrt := (LO12.out.noth OK.out).rt
                rw [List.length_set, HN3.out] at hrt
                have HRT := Lib.hid hrt
                clear hrt
                go_wp2_with fail
                refine (rgone_run (RZ S w) _ ⟨T3.set k3 t', lost3⟩ k3 wr ⟨_, rfl, HRT.out⟩ (by simp only [List.length_set]; rw [HN3.out]; exact hk3) (by simp only [List.length_set]; rw [HN3.out]; omega)).mono ?_
                rintro e w14 ⟨⟨v4, rfl, u4, rfl, hT4⟩, ho⟩
                have hset : (T3.set k3 t').eraseIdx k3 = T3.eraseIdx k3 := List.eraseIdx_set_eq
                simp only [hset] at hT4 ⊢
                obtain ⟨A4, c4, rfl⟩ := hT4.shape
                have HT4 := Lib.hid hT4
                have RR := Lib.hid ((RS12.out.noth OK.out).noth ho)
                have HZW := Lib.hid (RS12.out.noth OK.out).size
                obtain ⟨n4, hn4⟩ : ∃ n4, (T3.eraseIdx k3).length = n4 := ⟨_, rfl⟩
                rw [hn4] at HT4 ⊢
                have HN4 := Lib.hid hn4
                clear ho hT4 hset hn4 m0 m1 b2
                go_wp2_with (refine wpList_store_whole rfl rfl 48 (.tmp 6) (.tmp 137) rfl (w.heap.size + 2) rfl _ rfl 48 _ RR.out.res rfl (by simp [Value.oneCell']) (by kernel_rfl) ?_; intro w15 gr ho15 _; have OR := Lib.hid ho15; have y0 : w15.cell? ⟨w.heap.size + 1 + 1, 0, none⟩ = some (.slice A4 n4 c4) := gr.cell 0; have y1 : w15.cell? ⟨w.heap.size + 1 + 1, 1, none⟩ = some (.int .i64 lost3) := gr.cell 1; clear gr ho15)
                refine bodyPost_ret (v := .tuple #[.agg #[.slice A4 n4 c4, .int .i64 lost3], .string ⟨(t'.upto k).toArray⟩, .bool true, .int .i64 0]) (by simp [results, Try.results28, go_sem, y0, y1]) rfl ?_
                have hall : t'.left = 0 := left_zero (fun i hi => HALL.out i (by rw [HL'.out] at hi; exact hi))
                have hwh : t'.upto k = t'.whole := by rw [← Tx.upto_all, HL'.out]
                rw [HJA.out, HAT.out, if_pos hall, hwh]
                refine ⟨⟨_, rfl, _, rfl, (HT4.out.only OR.out (fun k hk e => ?_)).mono (fun k hk _ => ?_)⟩, RR.out.only.trans OR.out (fun j hj hl => by have hj : j = w.heap.size + 2 := hj; omega)⟩
                · have e : k = w.heap.size + 2 := e
                  rcases hk with hk | hk
                  · exact hk.2 (by omega)
                  · have hk : wr.heap.size ≤ k := hk
                    have := HZW.out
                    omega
                · rcases hk with hk | hk
                  · exact hk.1
                  · have hk : wr.heap.size ≤ k := hk
                    have := HZW.out
                    exact .inr (show w.heap.size ≤ k by omega)
end Go.Proofs.Ytemeglofblnnmaa
