/- The reference's joiner, in memory. -/
import Derived.Test.YtemeglofblnnmaaJnM
import Derived.Test.YtemeglofblnnmaaRowS
namespace Go.Proofs.Ytemeglofblnnmaa
open Go.RowKit Go.Lib
set_option linter.unusedVariables false
set_option linter.unusedSimpArgs false
set_option maxRecDepth 100000
attribute [local go_sem ↓] Go.wp_at_zero Go.wp_at_succ

/-- Cells that can be read behind an address; they lie in a block of S. -/
def Cs (w : World) (S : Nat → Prop) (A : Option Addr) (xs : List Value) : Prop := 0 < xs.length → ∃ b o, A = some ⟨b, o, none⟩ ∧ S b ∧ b < w.heap.size ∧ ∀ j u, xs[j]? = some u → w.cell? ⟨b, o + j, none⟩ = some u
section
variable {w w' : World} {S T F : Nat → Prop} {A : Option Addr} {xs : List Value} {e : TypeId} {size n c : Nat}
theorem Cs.nil (w : World) (S : Nat → Prop) (A : Option Addr) : Cs w S A [] := fun h => absurd h (Nat.lt_irrefl _)
theorem Cs.only (h : Cs w S A xs) (ho : Only F w w') (hSF : ∀ k, S k → ¬ F k) : Cs w' S A xs := fun hp => by
  obtain ⟨b, o, h1, h2, h3, h4⟩ := h hp
  exact ⟨b, o, h1, h2, Nat.lt_of_lt_of_le h3 ho.size, fun j u hu => (ho.cell (p := ⟨b, o + j, none⟩) h3 (hSF b h2)).trans (h4 j u hu)⟩
theorem Cs.noth (h : Cs w S A xs) (ho : Only Noth w w') : Cs w' S A xs := h.only ho (fun _ _ h => h)
theorem Cs.mono (h : Cs w S A xs) (hST : ∀ k, S k → k < w.heap.size → T k) : Cs w T A xs := fun hp => by
  obtain ⟨b, o, h1, h2, h3, h4⟩ := h hp
  exact ⟨b, o, h1, hST b h2 h3, h3, h4⟩
theorem Cs.src (h : Cs w S A xs) (hl : xs.length = n * size) (hs : 0 < size) : Src w S size A n xs := by
  refine ⟨hl, fun hn => ?_⟩
  obtain ⟨b, o, rfl, h2, h3, h4⟩ := h (by rw [hl]; exact Nat.mul_pos hn hs)
  exact ⟨_, rfl, h2, h3, fun j u hu => by rw [add_plain']; exact h4 j u hu⟩
theorem Row.cs (h : Row w F e size (.slice A n c) n xs) : Cs w F A xs := fun hp => by
  obtain ⟨hl, A', cap, hv, h1, h2, h3⟩ := h
  injection hv with e1 _ e3
  subst e1 e3
  rcases h3 with h3 | ⟨g, cur, hA, hF, hg, hc, ht⟩
  · obtain rfl : n = 0 := by omega
    rw [Nat.zero_mul] at hl
    omega
  · refine ⟨g, 0, hA, hF, (Array.getElem?_eq_some_iff.1 hg).1, fun j u hu => ?_⟩
    rw [Nat.zero_add, cell_of_row w g j cur e (0, 0) hg]
    rw [← ht, List.getElem?_take] at hu
    split at hu
    · simpa using hu
    · cases hu
end
/-- A piece's cells. -/
def pc (o : Option (List UInt8)) : List Value := [.bool o.isSome, .string ⟨(o.getD []).toArray⟩]
def pcs (l : List (Option (List UInt8))) : List Value := (l.map pc).flatten
theorem pcs_two (l : List (Option (List UInt8))) : ∀ cs ∈ l.map pc, cs.length = 2 := by
  intro cs hcs
  obtain ⟨o, _, rfl⟩ := List.mem_map.1 hcs
  rfl
theorem pcs_len (l : List (Option (List UInt8))) : (pcs l).length = l.length * 2 := by unfold pcs; rw [flat_lenG (pcs_two l), List.length_map]
theorem pcs_at {l : List (Option (List UInt8))} {i : Nat} {o : Option (List UInt8)} (h : l[i]? = some o) : (pcs l)[i * 2]? = some (.bool o.isSome) ∧ (pcs l)[i * 2 + 1]? = some (.string ⟨(o.getD []).toArray⟩) := by
  have hm : (l.map pc)[i]? = some (pc o) := by rw [List.getElem?_map, h]; rfl
  unfold pcs
  have h0 := flat_atg (pcs_two l) hm (j := 0) (by omega)
  have h1 := flat_atg (pcs_two l) hm (j := 1) (by omega)
  exact ⟨h0, h1⟩
theorem pcs_one (l : List (Option (List UInt8))) : ∀ u ∈ pcs l, u.oneCell' = true := by
  intro u hu
  obtain ⟨cs, h1, h2⟩ := List.mem_flatten.1 hu
  obtain ⟨o, _, rfl⟩ := List.mem_map.1 h1
  simp [pc] at h2
  rcases h2 with rfl | rfl <;> rfl
theorem pcs_app (l m : List (Option (List UInt8))) : pcs (l ++ m) = pcs l ++ pcs m := by unfold pcs; simp
/-- An open text of the reference's. -/
def RTx (w : World) (S : Nat → Prop) (cs : List Value) (t : Tx) : Prop := ∃ B d, cs = [.int .u16 t.frm, .int .i64 t.id, .slice B t.pcs.length d] ∧ Cs w S B (pcs t.pcs) ∧ t.pcs.length ≤ d ∧ d ≤ maxLen
def RTxs (w : World) (S : Nat → Prop) (css : List (List Value)) (T : List Tx) : Prop := css.length = T.length ∧ ∀ (i : Nat) t, T[i]? = some t → ∃ cs, css[i]? = some cs ∧ RTx w S cs t
def RT (w : World) (S : Nat → Prop) (v : Value) (T : List Tx) : Prop := ∃ A c css, v = .slice A T.length c ∧ Cs w S A css.flatten ∧ RTxs w S css T ∧ T.length ≤ c ∧ c ≤ maxLen
/-- The reference's joiner: a value; its cells lie in blocks of S. -/
def RJ (w : World) (S : Nat → Prop) (v : Value) (J : Jn) : Prop := ∃ u, v = .agg #[u, .int .i64 J.lost] ∧ RT w S u J.T
section
variable {w w' : World} {S S' F : Nat → Prop} {css : List (List Value)} {T : List Tx} {cs : List Value} {t : Tx} {v : Value} {J : Jn}
theorem RTx.only (h : RTx w S cs t) (ho : Only F w w') (hSF : ∀ k, S k → ¬ F k) : RTx w' S cs t := by
  obtain ⟨B, d, h1, h2, h3⟩ := h
  exact ⟨B, d, h1, h2.only ho hSF, h3⟩
theorem RTx.mono (h : RTx w S cs t) (hST : ∀ k, S k → k < w.heap.size → S' k) : RTx w S' cs t := by
  obtain ⟨B, d, h1, h2, h3⟩ := h
  exact ⟨B, d, h1, h2.mono hST, h3⟩
theorem RTx.three (h : RTx w S cs t) : cs.length = 3 := by
  obtain ⟨B, d, rfl, _⟩ := h
  rfl
theorem RTx.one (h : RTx w S cs t) : ∀ u ∈ cs, u.oneCell' = true := by
  obtain ⟨B, d, rfl, _⟩ := h
  intro u hu
  simp at hu
  rcases hu with rfl | rfl | rfl <;> rfl
theorem RTxs.only (h : RTxs w S css T) (ho : Only F w w') (hSF : ∀ k, S k → ¬ F k) : RTxs w' S css T := ⟨h.1, fun i t ht => by obtain ⟨cs, h1, h2⟩ := h.2 i t ht; exact ⟨cs, h1, h2.only ho hSF⟩⟩
theorem RTxs.mono (h : RTxs w S css T) (hST : ∀ k, S k → k < w.heap.size → S' k) : RTxs w S' css T := ⟨h.1, fun i t ht => by obtain ⟨cs, h1, h2⟩ := h.2 i t ht; exact ⟨cs, h1, h2.mono hST⟩⟩
theorem RTxs.at (h : RTxs w S css T) {cs : List Value} (hcs : cs ∈ css) : ∃ t, RTx w S cs t := by
  obtain ⟨i, hi, rfl⟩ := List.mem_iff_getElem.1 hcs
  obtain ⟨cs', h1, h2⟩ := h.2 i _ (List.getElem?_eq_getElem (by rw [← h.1]; exact hi))
  rw [List.getElem?_eq_getElem hi] at h1
  injection h1 with h1
  rw [h1]
  exact ⟨_, h2⟩
theorem RTxs.three (h : RTxs w S css T) : ∀ cs ∈ css, cs.length = 3 := fun cs hcs => (h.at hcs).elim fun _ h => h.three
theorem RTxs.one (h : RTxs w S css T) : ∀ u ∈ css.flatten, u.oneCell' = true := by
  intro u hu
  obtain ⟨cs, h1, h2⟩ := List.mem_flatten.1 hu
  obtain ⟨t, ht⟩ := h.at h1
  exact ht.one u h2
theorem RTxs.flat (h : RTxs w S css T) : css.flatten.length = T.length * 3 := by rw [flat_lenG h.three, h.1]
theorem RTxs.erase (h : RTxs w S css T) (i : Nat) : RTxs w S (css.eraseIdx i) (T.eraseIdx i) := by
  refine ⟨by rw [List.length_eraseIdx, List.length_eraseIdx, h.1], fun j t ht => ?_⟩
  rw [List.getElem?_eraseIdx] at ht ⊢
  split
  · rename_i hj
    rw [if_pos hj] at ht
    exact h.2 j t ht
  · rename_i hj
    rw [if_neg hj] at ht
    exact h.2 (j + 1) t ht
theorem RTxs.snoc {cs : List Value} {t : Tx} (h : RTxs w S css T) (ht : RTx w S cs t) : RTxs w S (css ++ [cs]) (T ++ [t]) := by
  refine ⟨by simp [h.1], fun i x hx => ?_⟩
  by_cases hi : i < T.length
  · rw [List.getElem?_append_left hi] at hx
    rw [List.getElem?_append_left (by rw [h.1]; exact hi)]
    exact h.2 i x hx
  · have hi2 : i = T.length := by
      have := (List.getElem?_eq_some_iff.1 hx).1
      simp at this
      omega
    subst hi2
    rw [List.getElem?_append_right (Nat.le_refl _)] at hx
    simp at hx
    subst hx
    rw [List.getElem?_append_right (by rw [h.1]; exact Nat.le_refl _)]
    exact ⟨cs, by simp [h.1], ht⟩
theorem RTxs.set {cs : List Value} {t : Tx} {i : Nat} (h : RTxs w S css T) (hi : i < T.length) (ht : RTx w S cs t) : RTxs w S (css.set i cs) (T.set i t) := by
  refine ⟨by simp [h.1], fun j x hx => ?_⟩
  by_cases e : i = j
  · subst e
    rw [List.getElem?_set_self hi] at hx
    injection hx with hx
    subst hx
    exact ⟨cs, by rw [List.getElem?_set_self (by rw [h.1]; exact hi)], ht⟩
  · rw [List.getElem?_set_ne e] at hx ⊢
    exact h.2 j x hx
theorem RT.only (h : RT w S v T) (ho : Only F w w') (hSF : ∀ k, S k → ¬ F k) : RT w' S v T := by
  obtain ⟨A, c, css, h1, h2, h3, h4⟩ := h
  exact ⟨A, c, css, h1, h2.only ho hSF, h3.only ho hSF, h4⟩
theorem RT.mono (h : RT w S v T) (hST : ∀ k, S k → k < w.heap.size → S' k) : RT w S' v T := by
  obtain ⟨A, c, css, h1, h2, h3, h4⟩ := h
  exact ⟨A, c, css, h1, h2.mono hST, h3.mono hST, h4⟩
theorem RJ.only (h : RJ w S v J) (ho : Only F w w') (hSF : ∀ k, S k → ¬ F k) : RJ w' S v J := by
  obtain ⟨u, h1, h2⟩ := h
  exact ⟨u, h1, h2.only ho hSF⟩
theorem RJ.noth (h : RJ w S v J) (ho : Only Noth w w') : RJ w' S v J := h.only ho (fun _ _ h => h)
theorem RJ.mono (h : RJ w S v J) (hST : ∀ k, S k → k < w.heap.size → S' k) : RJ w S' v J := by
  obtain ⟨u, h1, h2⟩ := h
  exact ⟨u, h1, h2.mono hST⟩
/-- A text of the reference's, by its place. -/
theorem RT.get {A : Option Addr} {c : Nat} (h : RT w S (.slice A T.length c) T) {i : Nat} {t : Tx} (ht : T[i]? = some t) : ∃ b o B d, A = some ⟨b, o, none⟩ ∧ S b ∧ b < w.heap.size ∧ (w.cell? ⟨b, o + i * 3, none⟩ = some (.int .u16 t.frm) ∧ w.cell? ⟨b, o + i * 3 + 1, none⟩ = some (.int .i64 t.id) ∧ w.cell? ⟨b, o + i * 3 + 2, none⟩ = some (.slice B t.pcs.length d)) ∧ Cs w S B (pcs t.pcs) ∧ t.pcs.length ≤ d ∧ d ≤ maxLen := by
  obtain ⟨A', c', css, hv, hc, hx, h1, h2⟩ := h
  injection hv with e1 _ e3
  subst e1 e3
  obtain ⟨cs, hcs, B, d, rfl, hB⟩ := hx.2 i t ht
  have hil := (List.getElem?_eq_some_iff.1 ht).1
  obtain ⟨b, o, hA, hS, hb, hcell⟩ := hc (by rw [hx.flat]; omega)
  have hat := fun j (hj : j < 3) => flat_atg hx.three hcs hj
  refine ⟨b, o, B, d, hA, hS, hb, ⟨?_, ?_, ?_⟩, hB⟩
  · exact hcell _ _ (hat 0 (by omega))
  · have := hcell _ _ (hat 1 (by omega))
    rwa [← Nat.add_assoc] at this
  · have := hcell _ _ (hat 2 (by omega))
    rwa [← Nat.add_assoc] at this
end
theorem beq_false_of {x y a b : Int} (h : ¬ (x = y ∧ a = b)) : (x == y && a == b) = false := by
  by_cases e : x = y
  · have : ¬ a = b := fun e2 => h ⟨e, e2⟩
    simp [e, this]
  · simp [e]
set_option maxHeartbeats 4000000 in
theorem rfind_run (S : Nat → Prop) (v : Value) (J : Jn) (frm id : Int) (w : World) (h : RJ w S v J) (hl : J.T.length ≤ 1000000) :
    Calls Try.prog 35 #[v, .int .u16 frm, .int .i64 id] w fun e w' => e = .returned (.int .i64 (placeOf (J.find frm id) J.T.length)) ∧ Only Noth w w' := by
  obtain ⟨u, rfl, hT⟩ := h
  obtain ⟨T, hTe⟩ : ∃ T, J.T = T := ⟨_, rfl⟩
  rw [hTe] at hT hl ⊢
  have HF := Lib.hid (show J.find frm id = T.findIdx fun t => t.frm == frm && t.id == id by unfold Jn.find; rw [hTe])
  have hsh : ∃ A c, u = .slice A T.length c := by obtain ⟨A, c, _, h, _⟩ := hT; exact ⟨A, c, h⟩
  obtain ⟨A, c, rfl⟩ := hsh
  obtain ⟨n, hn⟩ : ∃ n, T.length = n := ⟨_, rfl⟩
  have BX := Lib.hid (Hld.new w 48 #[.slice A n c, .int .i64 J.lost])
  have O := Lib.hid ((Only.refl Noth w).alloc (.cells #[.slice A n c, .int .i64 J.lost] 48))
  have HT := Lib.hid hT
  have HN := Lib.hid hn
  rw [hn] at hl ⊢
  have hn0 : (0 : Int) ≤ n := by omega
  clear hT hTe hn
  go_enter Try.func35, Try.ntmps35
  go_wp2_with fail
  go_loopw [7] (fun i W => ∃ k : Nat, k ≤ n ∧ i = .int .i64 (k : Int) ∧ (∀ j, j < k → ∀ x, T[j]? = some x → (x.frm == frm && x.id == id) = false) ∧ Only Noth (w.alloc (.cells #[.slice A n c, .int .i64 J.lost] 48)) W) (fun i _ => n - (RowKit.intOf i).toNat)
  case atStart => exact ⟨0, Nat.zero_le _, rfl, fun j hj => absurd hj (Nat.not_lt_zero _), Only.refl _ _⟩
  case round =>
    obtain ⟨k, hk, rfl, hno, ho⟩ := hrel
    have NO := Lib.hid hno
    have O2 := Lib.hid ho
    have hk0 : (0 : Int) ≤ k := by omega
    have m0 : wr.cell? ⟨w.heap.size, 0, none⟩ = some (.slice A n c) := (BX.out.only ho (fun h => h)).cell 0
    clear hno ho
    by_cases hkn : k < n
    · have hk1 : (k : Int) < n := by omega
      obtain ⟨t, ht⟩ : ∃ t, T[k]? = some t := ⟨_, List.getElem?_eq_getElem (by rw [HN.out]; exact hkn)⟩
      have hT2 : RT wr S (.slice A T.length c) T := (HT.out.only O.out (fun _ _ h => h)).only O2.out (fun _ _ h => h)
      obtain ⟨b, o, B, d, hA, hS, hb, ⟨c0, c1, _⟩, _⟩ := hT2.get ht
      subst hA
      have HT1 := Lib.hid ht
      clear hT2 ht hS hb
      by_cases e1 : t.frm = frm
      · by_cases e2 : t.id = id
        · go_wp2
          go_ret
          refine ⟨?_, O.out.tr O2.out⟩
          rw [HF.out, findIdx_hit HT1.out (by simp [e1, e2]) NO.out]
          unfold placeOf
          rw [if_pos hkn]
          rfl
        · go_wp2_with fail
          go_roundw
          case rel =>
            refine ⟨k + 1, by omega, by go_num, fun j hj x hx => ?_, O2.out⟩
            by_cases e : j = k
            · subst e
              rw [HT1.out] at hx
              injection hx with hx
              subst hx
              exact beq_false_of (fun h => e2 h.2)
            · exact NO.out j (by omega) x hx
          case measure => simp [RowKit.intOf]; omega
      · go_wp2_with fail
        go_roundw
        case rel =>
          refine ⟨k + 1, by omega, by go_num, fun j hj x hx => ?_, O2.out⟩
          by_cases e : j = k
          · subst e
            rw [HT1.out] at hx
            injection hx with hx
            subst hx
            exact beq_false_of (fun h => e1 h.1)
          · exact NO.out j (by omega) x hx
        case measure => simp [RowKit.intOf]; omega
    · obtain rfl : k = n := by omega
      go_wp2
      go_ret
      refine ⟨?_, O.out.tr O2.out⟩
      rw [HF.out, findIdx_miss (fun j x hx => NO.out j (by have := (List.getElem?_eq_some_iff.1 hx).1; rw [← HN.out]; exact this) x hx)]
      unfold placeOf
      rw [HN.out, if_neg (Nat.lt_irrefl _)]
      rfl
end Go.Proofs.Ytemeglofblnnmaa
