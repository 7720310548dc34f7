/- The document's alerts: place, Get. -/
import Derived.Test.YtokgignmdgejoaaDoorRaB
namespace Go.Proofs.YtokgignmdgejoaaDoor
open Go.RowKit Go.Lib
set_option linter.unusedVariables false
set_option linter.unusedSimpArgs false
set_option maxRecDepth 100000
attribute [local go_sem ↓] Go.wp_at_zero Go.wp_at_succ

/-- The document's store. -/
structure RfAt (w : World) (S : Nat → Prop) (A : Option Addr) (c : Nat) (N : List Al) : Prop where
  ls : LsAt w S A c N
  srt : Srt N
  len : N.length ≤ 64
  ok : ∀ e ∈ N, lcheck e.ls = 0 ∧ 1 ≤ e.ls.length ∧ e.key = ⟨(lkey e.ls).toArray⟩
theorem RfAt.only {w w' : World} {S F : Nat → Prop} {A : Option Addr} {c : Nat} {N : List Al} (h : RfAt w S A c N) (ho : Only F w w') (hSF : ∀ k, S k → ¬ F k) : RfAt w' S A c N := ⟨h.ls.only ho hSF, h.srt, h.len, h.ok⟩
theorem RfAt.noth {w w' : World} {S : Nat → Prop} {A : Option Addr} {c : Nat} {N : List Al} (h : RfAt w S A c N) (ho : Only Noth w w') : RfAt w' S A c N := h.only ho (fun _ _ h => h)
theorem RfAt.mono {w : World} {S T : Nat → Prop} {A : Option Addr} {c : Nat} {N : List Al} (h : RfAt w S A c N) (hST : ∀ k, S k → k < w.heap.size → T k) : RfAt w T A c N := ⟨h.ls.mono hST, h.srt, h.len, h.ok⟩
/-- Where a key stands, or would. -/
def rpos (N : List Al) (k : List UInt8) : Nat := (N.takeWhile fun x => bytesBefore x.kb k).length
def ris (N : List Al) (k : List UInt8) : Bool := match N[rpos N k]? with | some x => x.kb == k | none => false
theorem rpos_le : ∀ (N : List Al) (k : List UInt8), rpos N k ≤ N.length
  | [], _ => Nat.le_refl _
  | a :: t, k => by
    have ih := rpos_le t k
    unfold rpos at ih ⊢
    rw [List.takeWhile_cons]
    split
    · simp; omega
    · simp
theorem rpos_take : ∀ (N : List Al) (k : List UInt8), ∀ x ∈ N.take (rpos N k), bytesBefore x.kb k = true
  | [], _, x, h => by simp at h
  | a :: t, k, x, h => by
    have ih := rpos_take t k x
    unfold rpos at ih h
    rw [List.takeWhile_cons] at h
    split at h
    · rename_i hb
      rw [List.length_cons, List.take_succ_cons] at h
      rcases List.mem_cons.1 h with rfl | h
      · exact hb
      · exact ih h
    · simp at h
theorem rpos_at : ∀ (N : List Al) (k : List UInt8) (x : Al), N[rpos N k]? = some x → bytesBefore x.kb k = false
  | [], _, x, h => by simp at h
  | a :: t, k, x, h => by
    have ih := rpos_at t k x
    unfold rpos at ih h
    rw [List.takeWhile_cons] at h
    split at h
    · rw [List.length_cons, List.getElem?_cons_succ] at h
      exact ih h
    · rename_i hb
      simp at h
      subst h
      simpa using hb
theorem rpos_is : ∀ (N : List Al) (k : List UInt8) (i : Nat), i ≤ N.length → (∀ x ∈ N.take i, bytesBefore x.kb k = true) → (∀ x, N[i]? = some x → bytesBefore x.kb k = false) → rpos N k = i
  | [], k, i, hi, _, _ => by simp at hi; subst hi; rfl
  | a :: t, k, 0, _, _, ha => by
    have := ha a rfl
    unfold rpos
    rw [List.takeWhile_cons, this]
    rfl
  | a :: t, k, i + 1, hi, hb, ha => by
    have ih := rpos_is t k i (by simpa using hi) (fun x hx => hb x (by rw [List.take_succ_cons]; exact List.mem_cons_of_mem _ hx)) (fun x hx => ha x (by rw [List.getElem?_cons_succ]; exact hx))
    have h0 := hb a (by rw [List.take_succ_cons]; exact List.mem_cons_self)
    unfold rpos at ih ⊢
    rw [List.takeWhile_cons, h0, if_pos rfl, List.length_cons, ih]
theorem ris_yes {N : List Al} {k : List UInt8} (h : ris N k = true) : ∃ x, N[rpos N k]? = some x ∧ x.kb = k := by
  unfold ris at h
  split at h
  · rename_i x hx
    exact ⟨x, hx, by simpa using h⟩
  · cases h
theorem ris_no {N : List Al} {k : List UInt8} (h : ris N k = false) : ∀ x, N[rpos N k]? = some x → bytesBefore x.kb k = false ∧ x.kb ≠ k := fun x hx => by
  refine ⟨rpos_at N k x hx, fun e => ?_⟩
  unfold ris at h
  rw [hx] at h
  simp [e] at h
theorem less_kb (x : Al) (K : ByteArray) : Op.bytesLess x.key.toList K.toList = bytesBefore x.kb K.data.toList := by
  rw [less_before, ByteArray.toList_eq, ByteArray.toList_eq]
  rfl
theorem eq_kb (x : Al) (K : ByteArray) : (x.key.toList == K.toList) = (x.kb == K.data.toList) := by
  rw [ByteArray.toList_eq, ByteArray.toList_eq]
  rfl
set_option maxHeartbeats 8000000 in
theorem rplace_run (A : Option Addr) (c : Nat) (N : List Al) (K : ByteArray) (S : Nat → Prop) (w : World) (h : RfAt w S A c N) :
    Calls Tryd.prog 45 #[.agg #[.slice A N.length c], .string K] w fun e w' => e = .returned (.tuple #[.int .i64 (rpos N K.data.toList : Nat), .bool (ris N K.data.toList)]) ∧ Only Noth w w' := by
  have H := Lib.hid h
  have hn0 : (0 : Int) ≤ N.length := by omega
  have hnl := h.len
  obtain ⟨W0, hW0⟩ : ∃ W, w.alloc (.cells #[.slice A N.length c] 40) = W := ⟨_, rfl⟩
  have B0 := Lib.hid (show Hld W0 w.heap.size 40 #[.slice A N.length c] by rw [← hW0]; exact Hld.new w _ _)
  have O0 := Lib.hid (show Only Noth w W0 by rw [← hW0]; exact (Only.refl Noth w).alloc _)
  clear h
  go_enter Tryd.func45, Tryd.ntmps45
  go_wp2_with fail
  go_loopw [6] (fun i W => ∃ k : Nat, k ≤ N.length ∧ i = .int .i64 (k : Int) ∧ (∀ x ∈ N.take k, bytesBefore x.kb K.data.toList = true) ∧ Only Noth W0 W) (fun i _ => N.length - (RowKit.intOf i).toNat)
  case atStart => exact ⟨0, Nat.zero_le _, rfl, fun x hx => by simp at hx, by rw [← hW0]; exact Only.refl _ _⟩
  case round =>
    clear hW0
    obtain ⟨k, hk, rfl, hb, ho⟩ := hrel
    have HB := Lib.hid hb
    have OW := Lib.hid ho
    have ON := Lib.hid (O0.out.tr ho)
    have B1 := Lib.hid (B0.out.only ho (fun h => h))
    have m0 := B1.out.cell 0
    have hk0 : (0 : Int) ≤ k := by omega
    clear hb ho
    by_cases hlt : k < N.length
    · obtain ⟨x, hx⟩ : ∃ x, N[k]? = some x := ⟨_, List.getElem?_eq_getElem hlt⟩
      obtain ⟨b, o, hA, _, hbl, hc⟩ := (H.out.noth ON.out).ls.mem (by omega)
      obtain ⟨c0, _, _⟩ := hc k x hx
      have HX := Lib.hid hx
      have hmem := List.mem_of_getElem? hx
      have OK := Lib.hid (H.out.ok x hmem)
      have KR := Lib.hid (fun W (ho : Only Noth w W) => rkey_run S (some ⟨x.blk, 0, none⟩) x.cap x.ls (lcheck_small OK.out.1).1 (lcheck_small OK.out.1).2 W ((H.out.noth ho).ls.labs x hmem))
      have HKE := Lib.hid (show (⟨(lkey x.ls).toArray⟩ : ByteArray) = x.key from OK.out.2.2.symm)
      have HC := Lib.hid (fun W (ho : Only Noth wr W) => (ho.cell (p := ⟨b, o + k * 3, none⟩) hbl (fun h => h)).trans c0)
      have hk1 : (k : Int) < N.length := by omega
      subst hA
      clear hx hc hmem hbl
      go_wp2_with fail
      refine (KR.out wr ON.out).mono ?_
      rintro e w1 ⟨rfl, ho⟩
      rw [HKE.out]
      have O1 := Lib.hid (ON.out.tr ho)
      have OW1 := Lib.hid (OW.out.tr ho)
      have B2 := Lib.hid (B1.out.only ho (fun h => h))
      have m0 := B2.out.cell 0
      have c0' := HC.out w1 ho
      have hbl := less_kb x K
      obtain ⟨lt, hlt2⟩ : ∃ lt, bytesBefore x.kb K.data.toList = lt := ⟨_, rfl⟩
      have HL := Lib.hid hlt2
      rw [hlt2] at hbl
      clear hlt2 ho c0
      cases lt
      · have HPOS := Lib.hid (rpos_is N K.data.toList k hk HB.out (fun y hy => by rw [HX.out] at hy; injection hy with hy; rw [← hy]; exact HL.out))
        have HRIS := Lib.hid (show ris N K.data.toList = (x.kb == K.data.toList) by unfold ris; rw [HPOS.out, HX.out])
        go_wp2_with fail
        refine (KR.out w1 O1.out).mono ?_
        rintro e w2 ⟨rfl, ho⟩
        rw [HKE.out]
        have O2 := Lib.hid (O1.out.tr ho)
        have heq := eq_kb x K
        clear ho
        go_wp2
        refine bodyPost_ret (v := .tuple #[.int .i64 (k : Int), .bool (x.kb == K.data.toList)]) (by simp [results, Tryd.results45, go_sem, heq]) rfl ?_
        refine ⟨?_, O2.out⟩
        rw [HPOS.out, HRIS.out]
      · go_wp2_with fail
        go_roundw
        case rel =>
          refine ⟨k + 1, by omega, by go_num, fun y hy => ?_, ?_⟩
          · rw [List.take_add_one, HX.out] at hy
            rcases List.mem_append.1 hy with hy | hy
            · exact HB.out y hy
            · simp at hy
              subst hy
              exact HL.out
          · exact OW1.out
        case measure => simp [RowKit.intOf]; omega
    · obtain rfl : k = N.length := by omega
      have HPOS := Lib.hid (rpos_is N K.data.toList N.length (Nat.le_refl _) HB.out (fun y hy => by rw [List.getElem?_eq_none_iff.2 (Nat.le_refl _)] at hy; cases hy))
      have HRIS := Lib.hid (show ris N K.data.toList = false by unfold ris; rw [HPOS.out, List.getElem?_eq_none_iff.2 (Nat.le_refl _)])
      go_wp2
      refine bodyPost_ret (v := .tuple #[.int .i64 (N.length : Int), .bool false]) (by simp [results, Tryd.results45, go_sem]) rfl ?_
      refine ⟨?_, ON.out⟩
      rw [HPOS.out, HRIS.out]
end Go.Proofs.YtokgignmdgejoaaDoor
