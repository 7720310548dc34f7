/- Long texts in parts, in memory: the joiner. -/
import Derived.Test.YtemeglofblnnmaaDoorJnP
import Derived.Lib.Hide
namespace Go.Proofs.YtemeglofblnnmaaDoor
open Go.RowKit
set_option linter.unusedVariables false

/-- The bytes' cells. -/
def byteCs (l : List UInt8) : List Value := l.map fun b => .int .u8 b.toNat
/-- A []byte value that reads l, in blocks of S. -/
def BsAt (w : World) (S : Nat → Prop) (v : Value) (l : List UInt8) : Prop := ∃ A c, v = .slice A l.length c ∧ Src w S 1 A l.length (byteCs l) ∧ l.length ≤ c ∧ c ≤ maxLen
theorem BsAt.nil (w : World) (S : Nat → Prop) : BsAt w S (.slice none 0 0) [] := ⟨none, 0, rfl, Src.none_ w S 1 none, Nat.le_refl _, Nat.zero_le _⟩
theorem BsAt.only {w w' : World} {S F : Nat → Prop} {v : Value} {l : List UInt8} (h : BsAt w S v l) (ho : Only F w w') (hSF : ∀ k, S k → ¬ F k) : BsAt w' S v l := by
  obtain ⟨A, c, h1, h2, h3⟩ := h
  exact ⟨A, c, h1, h2.only ho hSF, h3⟩
theorem BsAt.noth {w w' : World} {S : Nat → Prop} {v : Value} {l : List UInt8} (h : BsAt w S v l) (ho : Only Noth w w') : BsAt w' S v l := h.only ho (fun _ _ h => h)
theorem BsAt.mono {w : World} {S T : Nat → Prop} {v : Value} {l : List UInt8} (h : BsAt w S v l) (hST : ∀ k, S k → k < w.heap.size → T k) : BsAt w T v l := by
  obtain ⟨A, c, h1, h2, h3⟩ := h
  exact ⟨A, c, h1, h2.mono hST, h3⟩
theorem BsAt.one {w : World} {S : Nat → Prop} {v : Value} {l : List UInt8} (h : BsAt w S v l) : v.oneCell' = true := by
  obtain ⟨A, c, rfl, _⟩ := h
  rfl
/-- The cells of an open text. -/
structure TxIs (w : World) (S : Nat → Prop) (cs : List Value) (t : Tx) : Prop where
  len : cs.length = 132
  c0 : cs[0]? = some (.int .u16 t.frm)
  c1 : cs[1]? = some (.int .i64 t.id)
  c2 : cs[2]? = some (.int .i64 t.pcs.length)
  c3 : cs[3]? = some (.int .i64 t.left)
  came : ∀ k, k < 64 → cs[4 + k]? = some (.bool (t.has k))
  part : ∀ k, k < 64 → ∃ v, cs[68 + k]? = some v ∧ BsAt w S v (t.piece k)
section
variable {w w' : World} {S T F : Nat → Prop} {cs : List Value} {t : Tx}
theorem TxIs.only (h : TxIs w S cs t) (ho : Only F w w') (hSF : ∀ k, S k → ¬ F k) : TxIs w' S cs t :=
  ⟨h.len, h.c0, h.c1, h.c2, h.c3, h.came, fun k hk => by obtain ⟨v, h1, h2⟩ := h.part k hk; exact ⟨v, h1, h2.only ho hSF⟩⟩
theorem TxIs.mono (h : TxIs w S cs t) (hST : ∀ k, S k → k < w.heap.size → T k) : TxIs w T cs t :=
  ⟨h.len, h.c0, h.c1, h.c2, h.c3, h.came, fun k hk => by obtain ⟨v, h1, h2⟩ := h.part k hk; exact ⟨v, h1, h2.mono hST⟩⟩
theorem TxIs.one (h : TxIs w S cs t) : ∀ u ∈ cs, u.oneCell' = true := by
  intro u hu
  obtain ⟨i, hi, rfl⟩ := List.mem_iff_getElem.1 hu
  have hl := h.len
  have e : cs[i]? = some cs[i] := List.getElem?_eq_getElem hi
  by_cases h4 : i < 4
  · have : i = 0 ∨ i = 1 ∨ i = 2 ∨ i = 3 := by omega
    rcases this with rfl | rfl | rfl | rfl
    · rw [h.c0] at e; injection e with e; rw [← e]; rfl
    · rw [h.c1] at e; injection e with e; rw [← e]; rfl
    · rw [h.c2] at e; injection e with e; rw [← e]; rfl
    · rw [h.c3] at e; injection e with e; rw [← e]; rfl
  · by_cases h68 : i < 68
    · have h1 := h.came (i - 4) (by omega)
      rw [show 4 + (i - 4) = i by omega, e] at h1
      injection h1 with h1
      rw [h1]; rfl
    · obtain ⟨v, h1, h2⟩ := h.part (i - 68) (by omega)
      rw [show 68 + (i - 68) = i by omega, e] at h1
      injection h1 with h1
      rw [h1]
      exact h2.one
/-- A text that was just opened. -/
def newCells (frm id : Int) (cnt : Nat) : List Value := [.int .u16 frm, .int .i64 id, .int .i64 cnt, .int .i64 cnt] ++ (List.replicate 64 (.bool false) ++ List.replicate 64 (.slice none 0 0))
theorem newCells_at (frm id : Int) (cnt : Nat) (k : Nat) (hk : k < 64) : (newCells frm id cnt)[4 + k]? = some (.bool false) ∧ (newCells frm id cnt)[68 + k]? = some (.slice none 0 0) := by
  unfold newCells
  constructor
  · rw [List.getElem?_append_right (by simp), List.getElem?_append_left (by simp; omega), List.getElem?_replicate]
    simp
    omega
  · rw [List.getElem?_append_right (by simp; omega), List.getElem?_append_right (by simp; omega), List.getElem?_replicate]
    simp
    omega
theorem none_left (cnt : Nat) (frm id : Int) : (⟨frm, id, List.replicate cnt none⟩ : Tx).left = cnt := by unfold Tx.left; rw [List.countP_replicate]; simp
theorem none_has (cnt : Nat) (frm id : Int) (k : Nat) : (⟨frm, id, List.replicate cnt none⟩ : Tx).has k = false ∧ (⟨frm, id, List.replicate cnt none⟩ : Tx).piece k = [] := by
  unfold Tx.has Tx.piece
  simp only [List.getElem?_replicate]
  split <;> simp
theorem TxIs.new (w : World) (S : Nat → Prop) (frm id : Int) (cnt : Nat) : TxIs w S (newCells frm id cnt) ⟨frm, id, List.replicate cnt none⟩ := by
  refine ⟨by simp [newCells], rfl, rfl, by simp [newCells], by rw [none_left]; rfl, fun k hk => ?_, fun k hk => ?_⟩
  · rw [(none_has cnt frm id k).1]
    exact (newCells_at frm id cnt k hk).1
  · rw [(none_has cnt frm id k).2]
    exact ⟨_, (newCells_at frm id cnt k hk).2, BsAt.nil w S⟩
/-- A part came. -/
theorem TxIs.put {k : Nat} {b : List UInt8} {v : Value} (h : TxIs w S cs t) (hk : k < t.pcs.length) (h64 : t.pcs.length ≤ 64) (hn : t.has k = false) (hv : BsAt w S v b) :
    TxIs w S (((cs.set (4 + k) (.bool true)).set (68 + k) v).set 3 (.int .i64 ((t.left : Int) - 1))) (t.put k b) := by
  have hl := h.len
  have hle := Tx.put_left (b := b) hk
  rw [hn] at hle
  simp only [Bool.false_eq_true, if_false] at hle
  have hpos : 1 ≤ t.left := by
    have := countP_set b (Tx.has_false hk hn)
    unfold Tx.left
    omega
  refine ⟨by simp [hl], ?_, ?_, ?_, ?_, fun j hj => ?_, fun j hj => ?_⟩
  · rw [Tx.put_frm, List.getElem?_set_ne (by omega), List.getElem?_set_ne (by omega), List.getElem?_set_ne (by omega), h.c0]
  · rw [Tx.put_id, List.getElem?_set_ne (by omega), List.getElem?_set_ne (by omega), List.getElem?_set_ne (by omega), h.c1]
  · rw [Tx.put_len, List.getElem?_set_ne (by omega), List.getElem?_set_ne (by omega), List.getElem?_set_ne (by omega), h.c2]
  · rw [List.getElem?_set_self (by simp [hl]), hle]
    congr 2
    omega
  · rw [Tx.put_has_at hk, List.getElem?_set_ne (by omega), List.getElem?_set_ne (by omega)]
    by_cases e : j = k
    · subst e
      rw [List.getElem?_set_self (by omega)]
      simp
    · rw [List.getElem?_set_ne (by omega), h.came j hj]
      have : (j == k) = false := by simpa using e
      rw [this, Bool.or_false]
  · rw [Tx.put_piece hk, hn, List.getElem?_set_ne (by omega)]
    simp only [Bool.false_eq_true, if_false]
    by_cases e : j = k
    · subst e
      rw [List.getElem?_set_self (by simp [hl]; omega), if_pos rfl]
      exact ⟨v, rfl, hv⟩
    · rw [List.getElem?_set_ne (by omega), List.getElem?_set_ne (by omega), if_neg e]
      exact h.part j hj
end
/-- Texts, by place. -/
def Txs (w : World) (S : Nat → Prop) (css : List (List Value)) (T : List Tx) : Prop := css.length = T.length ∧ ∀ (i : Nat) t, T[i]? = some t → ∃ cs, css[i]? = some cs ∧ TxIs w S cs t
section
variable {w w' : World} {S S' F : Nat → Prop} {css : List (List Value)} {T : List Tx}
theorem Txs.only (h : Txs w S css T) (ho : Only F w w') (hSF : ∀ k, S k → ¬ F k) : Txs w' S css T := ⟨h.1, fun i t ht => by obtain ⟨cs, h1, h2⟩ := h.2 i t ht; exact ⟨cs, h1, h2.only ho hSF⟩⟩
theorem Txs.mono (h : Txs w S css T) (hST : ∀ k, S k → k < w.heap.size → S' k) : Txs w S' css T := ⟨h.1, fun i t ht => by obtain ⟨cs, h1, h2⟩ := h.2 i t ht; exact ⟨cs, h1, h2.mono hST⟩⟩
theorem Txs.len (h : Txs w S css T) : ∀ cs ∈ css, cs.length = 132 := by
  intro cs hcs
  obtain ⟨i, hi, rfl⟩ := List.mem_iff_getElem.1 hcs
  obtain ⟨cs', h1, h2⟩ := h.2 i _ (List.getElem?_eq_getElem (by rw [← h.1]; exact hi))
  rw [List.getElem?_eq_getElem hi] at h1
  injection h1 with h1
  rw [h1]
  exact h2.len
theorem Txs.erase (h : Txs w S css T) (i : Nat) : Txs w S (css.eraseIdx i) (T.eraseIdx i) := by
  refine ⟨by rw [List.length_eraseIdx, List.length_eraseIdx, h.1], fun j t ht => ?_⟩
  rw [List.getElem?_eraseIdx] at ht ⊢
  split
  · rename_i hj
    rw [if_pos hj] at ht
    exact h.2 j t ht
  · rename_i hj
    rw [if_neg hj] at ht
    exact h.2 (j + 1) t ht
theorem Txs.snoc {cs : List Value} {t : Tx} (h : Txs w S css T) (ht : TxIs w S cs t) : Txs w S (css ++ [cs]) (T ++ [t]) := by
  refine ⟨by simp [h.1], fun i x hx => ?_⟩
  by_cases hi : i < T.length
  · rw [List.getElem?_append_left hi] at hx
    rw [List.getElem?_append_left (by rw [h.1]; exact hi)]
    exact h.2 i x hx
  · have hi2 : i = T.length := by
      have := (List.getElem?_eq_some_iff.1 hx).1
      simp at this
      omega
    subst hi2
    rw [List.getElem?_append_right (Nat.le_refl _)] at hx
    simp at hx
    subst hx
    rw [List.getElem?_append_right (by rw [h.1]; exact Nat.le_refl _)]
    exact ⟨cs, by simp [h.1], ht⟩
theorem Txs.set {cs : List Value} {t : Tx} {i : Nat} (h : Txs w S css T) (hi : i < T.length) (ht : TxIs w S cs t) : Txs w S (css.set i cs) (T.set i t) := by
  refine ⟨by simp [h.1], fun j x hx => ?_⟩
  by_cases e : i = j
  · subst e
    rw [List.getElem?_set_self hi] at hx
    injection hx with hx
    subst hx
    exact ⟨cs, by rw [List.getElem?_set_self (by rw [h.1]; exact hi)], ht⟩
  · rw [List.getElem?_set_ne e] at hx ⊢
    exact h.2 j x hx
end
/-- The block of a row. -/
def RowB (A : Option Addr) (c : Nat) : Nat → Prop := fun k => c ≠ 0 ∧ A = some ⟨k, 0, none⟩
theorem Row.tightB {w : World} {F : Nat → Prop} {e : TypeId} {size n c : Nat} {A : Option Addr} {xs : List Value} (h : Row w F e size (.slice A n c) n xs) : Row w (RowB A c) e size (.slice A n c) n xs ∧ ∀ k, RowB A c k → F k ∧ ∃ cur, w.heap[k]? = some (.cells cur e (0, 0)) := by
  obtain ⟨hl, A', cap, hv, h1, h2, h3⟩ := h
  injection hv with e1 e2 e3
  subst e1
  subst e3
  rcases h3 with h3 | ⟨g, cur, hA, hF, hg, hc, ht⟩
  · exact ⟨⟨hl, A, c, rfl, h1, h2, .inl h3⟩, fun k hk => absurd h3 hk.1⟩
  · by_cases hc0 : c = 0
    · exact ⟨⟨hl, A, c, rfl, h1, h2, .inl hc0⟩, fun k hk => absurd hc0 hk.1⟩
    · refine ⟨⟨hl, A, c, rfl, h1, h2, .inr ⟨g, cur, hA, ⟨hc0, hA⟩, hg, hc, ht⟩⟩, fun k hk => ?_⟩
      have := hk.2
      rw [hA] at this
      injection this with this
      injection this with this
      subst this
      exact ⟨hF, cur, hg⟩
/-- The joiner behind its pointer: R: where its row may lie; S: where the parts may lie. -/
def JoinAt (R S : Nat → Prop) (w : World) (g : Nat) (J : Jn) : Prop :=
  (¬ R g ∧ ¬ S g) ∧ J.Ok ∧ ∃ A c css, Hld w g 74 #[.slice A J.T.length c, .int .i64 J.lost] ∧ Row w R 79 132 (.slice A J.T.length c) J.T.length css.flatten ∧ Txs w (fun b => S b ∧ ¬ RowB A c b) css J.T
end Go.Proofs.YtemeglofblnnmaaDoor
