/- What every statement of layer 31 ends in. -/
import Derived.Test.YtemeglofblnnmaaDoorJnIZ
import Derived.Test.YtemeglofblnnmaaDoorJnS
import Derived.Lib.SlBytesConst
namespace Go.Proofs.YtemeglofblnnmaaDoor
open Go.RowKit Go.Lib
set_option linter.unusedVariables false
set_option linter.unusedSimpArgs false
set_option maxRecDepth 100000
attribute [local go_sem ↓] Go.wp_at_zero Go.wp_at_succ

theorem BsAt.conv {S : Nat → Prop} {A : Option Addr} {n c : Nat} {l : List UInt8} {w : World} (h : BsAt w S (.slice A n c) l) :
    (convert 22 9 (.slice A n c)).run Tryd.prog w = .ok (.string ⟨l.toArray⟩) w := by
  obtain ⟨A', c', e, hs, _, _⟩ := h
  injection e with e1 e2 e3
  subst e1 e2 e3
  cases A with
  | none =>
    have hl : l.length = 0 := by
      rcases Nat.eq_zero_or_pos l.length with h | h
      · exact h
      · obtain ⟨ad, h, _⟩ := hs.2 h
        cases h
    obtain rfl : l = [] := List.eq_nil_of_length_eq_zero hl
    exact run_convert_bytes_nil w 22 5 Tryd.underlying22 Tryd.underlying5 _ c 9 Tryd.underlying9
  | some a =>
    have hld : (loadCells a l.length).run Tryd.prog w = .ok ((l.map fun b => (b.toNat : Int)).map (Value.int .u8)).toArray w := by
      have hc : ∀ j v, (byteCs l)[j]? = some v → w.cell? (a.add j) = some v := by
        rcases Nat.eq_zero_or_pos l.length with h | h
        · intro j v hj
          obtain rfl : l = [] := List.eq_nil_of_length_eq_zero h
          simp [byteCs] at hj
        · obtain ⟨ad, h, _, _, hc⟩ := hs.2 h
          injection h with h
          subst h
          exact hc
      have := run_loadCells_list (P := Tryd.prog) w a (byteCs l) hc
      rw [show (byteCs l).length = l.length by simp [byteCs]] at this
      rw [this]
      simp [byteCs]
    have hn : l.length = (l.map fun b => (b.toNat : Int)).length := by simp
    rw [run_convert_bytes_string w 22 9 5 _ l.length c Tryd.underlying22 Tryd.underlying5 Tryd.underlying9, run_bytesToString w a l.length c _ hld, foldl_push_bytes]
    simp [ByteArray.empty, ByteArray.emptyWithCapacity, Function.comp_def]
    rfl
/-- Blocks from a size on. -/
def From (N : Nat) : Nat → Prop := fun k => N ≤ k
/-- Add, told by the size at which the joiner was made. -/
theorem add_from (N g : Nat) (J : Jn) (frm id idx cnt : Int) (bs : List UInt8) (v : Value) (Sv : Nat → Prop) (w : World) (h : JoinAt (From N) (From N) w g J) (hg : g < N) (hN : N ≤ w.heap.size) (hf0 : 0 ≤ frm) (hlost : J.lost ≤ 1000000) (hv : BsAt w Sv v bs) (hSv : ∀ b, Sv b → b ≠ g ∧ b < N) :
    Calls Tryd.prog 13 #[.pointer (some ⟨g, 0, none⟩), .int .u16 frm, .agg #[.int .i64 id, .int .i64 idx, .int .i64 cnt, v]] w fun e w' => AddAns (jadd J frm ⟨id, idx, cnt, bs⟩) w e w' ∧ JoinAt (From N) (From N) w' g (jadd J frm ⟨id, idx, cnt, bs⟩).1 ∧ Only (fun b => b = g ∨ From N b) w w' ∧ N ≤ w'.heap.size := by
  refine (add_run (From N) (From N) Sv g J frm id idx cnt bs v w h hf0 hlost hv (fun b hb => ⟨(hSv b hb).1, fun h => by have h : N ≤ b := h; have := (hSv b hb).2; omega⟩)).mono ?_
  rintro e w' ⟨h1, h2, h3⟩
  have hz := h3.size
  refine ⟨h1, h2.tight (fun k hk _ => ?_) (fun k hk _ => ?_) (fun h => by have h : N ≤ g := h; omega) (fun h => by have h : N ≤ g := h; omega), h3, by omega⟩
  · rcases hk with hk | hk
    · exact hk
    · exact Nat.le_trans hN hk
  · rcases hk with hk | hk
    · exact hk
    · exact Nat.le_trans hN hk
def abcde : List UInt8 := [97, 98, 99, 100, 101]
theorem split_abc : splitD 7 abcde 2 = ([⟨7, 0, 3, [97, 98]⟩, ⟨7, 1, 3, [99, 100]⟩, ⟨7, 2, 3, [101]⟩], 0) := by rfl
def aj1 : Jn := ⟨[⟨1, 7, [none, none, some [101]]⟩], 0⟩
def aj2 : Jn := ⟨[⟨1, 7, [some [97, 98], none, some [101]]⟩], 0⟩
theorem abc1 : jadd ⟨[], 0⟩ 1 ⟨7, 2, 3, [101]⟩ = (aj1, none, 0) := by rfl
theorem abc2 : jadd aj1 1 ⟨7, 0, 3, [97, 98]⟩ = (aj2, none, 0) := by rfl
theorem abc3 : jadd aj2 1 ⟨7, 1, 3, [99, 100]⟩ = (⟨[], 0⟩, some abcde, 0) := by rfl
set_option maxHeartbeats 4000000 in
theorem awake_run (w : World) : Calls Tryd.prog 5 #[] w fun e w' => e = .returned (.bool true) ∧ Only Noth w w' := by
  have O0 := Lib.hid ((Only.refl Noth w).alloc (.cells #[.int .u8 97, .int .u8 98, .int .u8 99, .int .u8 100, .int .u8 101] 5 (5, 6)))
  have B0 := Lib.hid (fun j => cell_of_row _ w.heap.size j _ _ _ (heap_alloc_new w (.cells #[.int .u8 97, .int .u8 98, .int .u8 99, .int .u8 100, .int .u8 101] 5 (5, 6))))
  have B1 := Lib.hid (show w.heap.size < (w.alloc (.cells #[.int .u8 97, .int .u8 98, .int .u8 99, .int .u8 100, .int .u8 101] 5 (5, 6))).heap.size from (Array.getElem?_eq_some_iff.1 (heap_alloc_new w _)).1)
  go_enter Tryd.func5, Tryd.ntmps5
  have kc := fun (w : World) (C : Array Value) (n c : Nat) => Lib.run_convert_bytes_const (P := Tryd.prog) w 22 5 C n c Tryd.underlying22 Tryd.underlying5
  go_wp2_with fail
  clear kc
  refine (split_run 7 (some ⟨w.heap.size, 0, none⟩) 5 (fun k => k = w.heap.size) abcde 2 (by omega) (by omega) _ ⟨_, _, rfl, ⟨rfl, fun _ => ⟨_, rfl, rfl, B1.out, fun j u hu => ?_⟩⟩, by decide, by decide⟩ (fun k hk => by rw [hk]; exact B1.out)).mono ?_
  · rw [add_plain', Nat.zero_add, B0.out j]
    simpa [byteCs, abcde] using hu
  rintro e w1 ⟨⟨A, c, rfl, hsp⟩, ho⟩
  rw [split_abc] at hsp ⊢
  obtain ⟨g, cur, D, rfl, hg, hcur, hcl, hD, _, hp⟩ := hsp (by decide)
  obtain ⟨v0, x0, x1, x2, x3, b0⟩ := hp 0 _ rfl
  obtain ⟨v1, y0, y1, y2, y3, b1⟩ := hp 1 _ rfl
  obtain ⟨v2, z0, z1, z2, z3, b2⟩ := hp 2 _ rfl
  have O1 := Lib.hid (O0.out.trans ho (fun _ h _ => h.elim))
  have HC := Lib.hid hcur
  have X := Lib.hid (And.intro x0 (And.intro x1 (And.intro x2 x3)))
  have Y := Lib.hid (And.intro y0 (And.intro y1 (And.intro y2 y3)))
  have Z := Lib.hid (And.intro z0 (And.intro z1 (And.intro z2 z3)))
  have V0 := Lib.hid b0.bs
  have V1 := Lib.hid b1.bs
  have V2 := Lib.hid b2.bs
  have HD := Lib.hid hD
  have HG := Lib.hid hg
  clear hsp hp hcur hcl hD hg x0 x1 x2 x3 y0 y1 y2 y3 z0 z1 z2 z3 b0 b1 b2 ho
  go_wp2_with fail
  refine (new_run w1).mono ?_
  rintro e w2 ⟨rfl, hj, hlt, ho⟩
  have HJ := Lib.hid (show JoinAt (From w2.heap.size) (From w2.heap.size) w2 w1.heap.size ⟨[], 0⟩ from hj.tight (fun _ h _ => h.elim) (fun _ h _ => h.elim) (fun h => by have h : w2.heap.size ≤ w1.heap.size := h; omega) (fun h => by have h : w2.heap.size ≤ w1.heap.size := h; omega))
  have HC2 := Lib.hid (HC.out.only ho (fun h => h))
  have O2 := Lib.hid (O1.out.trans ho (fun _ h _ => h.elim))
  have HLT := Lib.hid hlt
  have GLT := Lib.hid HC.out.lt
  have W0 := Lib.hid (V0.out.noth ho)
  have W1 := Lib.hid (V1.out.noth ho)
  have W2 := Lib.hid (V2.out.noth ho)
  have HDN := Lib.hid (show ∀ i x, D i x → x ≠ w1.heap.size ∧ x < w2.heap.size from fun i x hx => by have := (HD.out i x hx).2.1; have := HLT.out; omega)
  have k8 : w2.cell? ⟨g, 8, none⟩ = some (.int .i64 7) := (HC2.out.cell 8).trans Z.out.1
  have k9 : w2.cell? ⟨g, 9, none⟩ = some (.int .i64 2) := (HC2.out.cell 9).trans Z.out.2.1
  have k10 : w2.cell? ⟨g, 10, none⟩ = some (.int .i64 3) := (HC2.out.cell 10).trans Z.out.2.2.1
  have k11 : w2.cell? ⟨g, 11, none⟩ = some v2 := (HC2.out.cell 11).trans Z.out.2.2.2
  clear hj hlt ho
  go_wp2_with fail
  refine (add_from w2.heap.size w1.heap.size _ 1 7 2 3 [101] v2 (D 2) w2 HJ.out HLT.out (Nat.le_refl _) (by omega) (by decide) W2.out (HDN.out 2)).mono ?_
  rintro e w3 ⟨⟨u1, rfl, _⟩, hj, ho, hz⟩
  rw [abc1] at hj ⊢
  have HJ3 := Lib.hid hj
  have HZ3 := Lib.hid hz
  have hgn : ¬ (g = w1.heap.size ∨ From w2.heap.size g) := by
    rintro (h | h)
    · have := GLT.out; omega
    · have h : w2.heap.size ≤ g := h
      have := GLT.out
      have := HLT.out
      omega
  have HGN := Lib.hid hgn
  have hdn : ∀ i x, D i x → ¬ (x = w1.heap.size ∨ From w2.heap.size x) := fun i x hx h => by
    have h1 := HDN.out i x hx
    rcases h with h | h
    · exact h1.1 h
    · have h : w2.heap.size ≤ x := h
      omega
  have HDF := Lib.hid hdn
  have HC3 := Lib.hid (HC2.out.only ho hgn)
  have W03 := Lib.hid (W0.out.only ho (hdn 0))
  have W13 := Lib.hid (W1.out.only ho (hdn 1))
  have O3 := Lib.hid (show Only Noth w w3 from O2.out.trans ho (fun j hj hl => by
    have h1 := O1.out.size
    have h2 := O2.out.size
    rcases hj with h | h
    · omega
    · have h : w2.heap.size ≤ j := h
      omega))
  have j0 : w3.cell? ⟨g, 0, none⟩ = some (.int .i64 7) := (HC3.out.cell 0).trans X.out.1
  have j1 : w3.cell? ⟨g, 1, none⟩ = some (.int .i64 0) := (HC3.out.cell 1).trans X.out.2.1
  have j2 : w3.cell? ⟨g, 2, none⟩ = some (.int .i64 3) := (HC3.out.cell 2).trans X.out.2.2.1
  have j3 : w3.cell? ⟨g, 3, none⟩ = some v0 := (HC3.out.cell 3).trans X.out.2.2.2
  clear hj ho hz hgn hdn k8 k9 k10 k11
  go_wp2_with fail
  refine (add_from w2.heap.size w1.heap.size _ 1 7 0 3 [97, 98] v0 (D 0) w3 HJ3.out HLT.out HZ3.out (by omega) (by decide) W03.out (HDN.out 0)).mono ?_
  rintro e w4 ⟨⟨u2, rfl, _⟩, hj, ho, hz⟩
  rw [abc2] at hj ⊢
  have HJ4 := Lib.hid hj
  have HZ4 := Lib.hid hz
  have HC4 := Lib.hid (HC3.out.only ho HGN.out)
  have W14 := Lib.hid (W13.out.only ho (HDF.out 1))
  have O4 := Lib.hid (show Only Noth w w4 from O3.out.trans ho (fun j hj hl => by
    have h1 := O1.out.size
    have h2 := O2.out.size
    rcases hj with h | h
    · omega
    · have h : w2.heap.size ≤ j := h
      omega))
  have i4 : w4.cell? ⟨g, 4, none⟩ = some (.int .i64 7) := (HC4.out.cell 4).trans Y.out.1
  have i5 : w4.cell? ⟨g, 5, none⟩ = some (.int .i64 1) := (HC4.out.cell 5).trans Y.out.2.1
  have i6 : w4.cell? ⟨g, 6, none⟩ = some (.int .i64 3) := (HC4.out.cell 6).trans Y.out.2.2.1
  have i7 : w4.cell? ⟨g, 7, none⟩ = some v1 := (HC4.out.cell 7).trans Y.out.2.2.2
  clear hj ho hz j0 j1 j2 j3
  go_wp2_with fail
  refine (add_from w2.heap.size w1.heap.size _ 1 7 1 3 [99, 100] v1 (D 1) w4 HJ4.out HLT.out HZ4.out (by omega) (by decide) W14.out (HDN.out 1)).mono ?_
  rintro e w5 ⟨⟨u3, rfl, hu3⟩, hj, ho, hz⟩
  rw [abc3] at hj hu3 ⊢
  have HJ5 := Lib.hid hj
  have O5 := Lib.hid (show Only Noth w w5 from O4.out.trans ho (fun j hj hl => by
    have h1 := O1.out.size
    have h2 := O2.out.size
    rcases hj with h | h
    · omega
    · have h : w2.heap.size ≤ j := h
      omega))
  obtain ⟨A5, c5, rfl, h5⟩ := hu3
  have hcv : (convert 22 9 (.slice A5 abcde.length c5)).run Tryd.prog w5 = .ok (.string ⟨#[97, 98, 99, 100, 101]⟩) w5 := BsAt.conv (l := abcde) (S := New w4) ⟨A5, c5, rfl, h5⟩
  clear hj ho hz i4 i5 i6 i7 h5
  go_wp2_with fail
  refine (open_run _ _ _ _ _ HJ5.out).mono ?_
  rintro e w6 ⟨rfl, ho⟩
  have O6 := Lib.hid (O5.out.tr ho)
  clear ho hcv
  go_wp2
  go_ret
  exact ⟨rfl, O6.out⟩
end Go.Proofs.YtemeglofblnnmaaDoor
