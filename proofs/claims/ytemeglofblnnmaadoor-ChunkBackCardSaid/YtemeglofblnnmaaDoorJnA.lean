/- Package chunk and slices: number, may, Clone, Grow, Concat over bytes. -/
import Derived.Test.YtemeglofblnnmaaDoorJn
import Derived.Test.YtemeglofblnnmaaDoorOrd
import Derived.Lib.AppendZerosOnto
import Derived.Lib.SliceRun
import Derived.Shelf.SlicesQ.Load
import Derived.IntWalk
import Derived.Deep.DrawnRows
import Derived.WalkLawsBesides
import Derived.WalkSpells
namespace Go.Proofs.YtemeglofblnnmaaDoor
open Go.RowKit Go.Lib
set_option linter.unusedVariables false
set_option linter.unusedSimpArgs false
set_option maxRecDepth 100000
attribute [local go_sem ↓] Go.wp_at_zero Go.wp_at_succ

theorem bytinfo : (Tryd.prog.info? 5).map (fun i => (i.zero, i.size, i.bytes)) = some (some (.int .u8 0), 1, 1) := by kernel_rfl
theorem txinfo : (Tryd.prog.info? 79).map (fun i => (i.zero, i.size, i.bytes)) = some (some (.agg (newCells 0 0 0).toArray), 132, 1632) := by kernel_rfl
theorem number_run (n : Int) (w : World) : Calls Tryd.prog 34 #[.int .i64 n] w fun e w' => e = .returned (.bool (decide (0 ≤ n) && decide (n ≤ 1099511627776))) ∧ Only Noth w w' := by
  go_enter Tryd.func34, Tryd.ntmps34
  go_wp2
  all_goals go_ret
  all_goals refine ⟨ret_bool ?_, Only.refl _ _⟩
  all_goals simp_all
  all_goals omega
/-- A part's cells. -/
abbrev Pt.cells (p : Pt) (v : Value) : Array Value := #[.int .i64 p.id, .int .i64 p.idx, .int .i64 p.cnt, v]
set_option maxHeartbeats 2000000 in
theorem may_run (p : Pt) (A : Option Addr) (c : Nat) (hl : p.bs.length ≤ maxLen) (w : World) : Calls Tryd.prog 16 #[.agg (p.cells (.slice A p.bs.length c))] w fun e w' => e = .returned (.bool p.may) ∧ Only Noth w w' := by
  have hl2 : (p.bs.length : Int) ≤ 9223372036854775807 := by unfold maxLen at hl; omega
  have hl0 : (0 : Int) ≤ p.bs.length := by omega
  have O := Lib.hid ((Only.refl Noth w).alloc (.cells (p.cells (.slice A p.bs.length c)) 29))
  have B := Lib.hid (Hld.new w 29 (p.cells (.slice A p.bs.length c)))
  go_enter Tryd.func16, Tryd.ntmps16
  go_wp2_with fail
  refine (number_run p.id _).mono ?_
  rintro e w1 ⟨rfl, ho⟩
  have b0 : w1.cell? ⟨w.heap.size, 0, none⟩ = some (.int .i64 p.id) := (B.out.only ho (fun h => h)).cell 0
  have b1 : w1.cell? ⟨w.heap.size, 1, none⟩ = some (.int .i64 p.idx) := (B.out.only ho (fun h => h)).cell 1
  have b2 : w1.cell? ⟨w.heap.size, 2, none⟩ = some (.int .i64 p.cnt) := (B.out.only ho (fun h => h)).cell 2
  have b3 : w1.cell? ⟨w.heap.size, 3, none⟩ = some (.slice A p.bs.length c) := (B.out.only ho (fun h => h)).cell 3
  replace O := Lib.hid (O.out.tr ho)
  clear ho
  obtain ⟨nb, hnb⟩ : ∃ nb, (decide (0 ≤ p.id) && decide (p.id ≤ 1099511627776)) = nb := ⟨_, rfl⟩
  have HN := Lib.hid hnb
  rw [hnb]
  clear hnb
  have HM := Lib.hid (show p.may = (nb && decide (1 ≤ p.cnt) && decide (p.cnt ≤ 64) && decide (0 ≤ p.idx) && decide (p.idx < p.cnt) && decide ((p.bs.length : Int) ≤ 8192)) by
    rw [← HN.out]
    unfold Pt.may
    congr 1
    by_cases h : p.bs.length ≤ 8192
    · have : (p.bs.length : Int) ≤ 8192 := by omega
      simp [h, this]
    · have : ¬ (p.bs.length : Int) ≤ 8192 := by omega
      simp [h, this])
  cases nb
  · go_wp2
    all_goals go_ret
    all_goals refine ⟨ret_bool ?_, O.out⟩
    all_goals rw [HM.out]
    all_goals simp_all
    all_goals omega
  · go_wp2
    all_goals go_ret
    all_goals refine ⟨ret_bool ?_, O.out⟩
    all_goals rw [HM.out]
    all_goals simp_all
    all_goals omega
  all_goals omega
theorem Row.bs {w : World} {F : Nat → Prop} {v : Value} {l : List UInt8} {n : Nat} (h : Row w F 5 1 v n (byteCs l)) (hn : n = l.length) : BsAt w F v l := by
  subst hn
  obtain ⟨A, c, rfl⟩ := h.shape
  have hs := h.src
  obtain ⟨_, A', cap, hv, h1, h2, _⟩ := h
  injection hv with e1 _ e3
  subst e1 e3
  exact ⟨A, c, rfl, hs, h1, h2⟩
theorem byteCs_one (l : List UInt8) : ∀ u ∈ byteCs l, u.oneCell' = true := by
  intro u hu
  obtain ⟨b, _, rfl⟩ := List.mem_map.1 hu
  rfl
theorem byteCs_len (l : List UInt8) : (byteCs l).length = l.length := by unfold byteCs; simp
theorem byteCs_app (l m : List UInt8) : byteCs (l ++ m) = byteCs l ++ byteCs m := by unfold byteCs; simp
/-- A []byte value of the call's own that reads l. -/
def OwnB (w : World) (S : Nat → Prop) (v : Value) (l : List UInt8) : Prop := Row w S 5 1 v l.length (byteCs l) ∧ l.length ≤ 1000000
theorem OwnB.bs {w : World} {S : Nat → Prop} {v : Value} {l : List UInt8} (h : OwnB w S v l) : BsAt w S v l := Row.bs h.1 (by have := h.2; omega)
theorem OwnB.only {w w' : World} {S F : Nat → Prop} {v : Value} {l : List UInt8} (h : OwnB w S v l) (ho : Only F w w') (hSF : ∀ k, S k → ¬ F k) : OwnB w' S v l := ⟨h.1.only ho hSF, h.2⟩
theorem OwnB.noth {w w' : World} {S : Nat → Prop} {v : Value} {l : List UInt8} (h : OwnB w S v l) (ho : Only Noth w w') : OwnB w' S v l := h.only ho (fun _ _ h => h)
theorem OwnB.mono {w : World} {S T : Nat → Prop} {v : Value} {l : List UInt8} (h : OwnB w S v l) (hST : ∀ k, S k → k < w.heap.size → T k) : OwnB w T v l := ⟨h.1.mono hST, h.2⟩
/-- Bytes are copied. -/
theorem clone_own (A : Option Addr) (c : Nat) (S : Nat → Prop) (l : List UInt8) (hz : l.length ≤ 1000000) (w : World) (h : BsAt w S (.slice A l.length c) l) :
    Calls Tryd.prog 35 #[.slice A l.length c] w fun e w' => (∃ v, e = .returned v ∧ OwnB w' (New w) v l) ∧ Only Noth w w' := by
  obtain ⟨A', c', e1, hs, h1, h2⟩ := h
  injection e1 with e1 _ e3
  subst e1 e3
  have HS := Lib.hid hs
  have hq := fun (w : World) (a : Option Addr) (n c : Nat) => Lib.run_eql_slice_nil (P := Tryd.prog) w 22 5 a n c 0 0 Tryd.underlying22
  cases A with
  | none =>
    have hl : l = [] := by
      cases l with
      | nil => rfl
      | cons a t => obtain ⟨ad, h, _⟩ := hs.2 (by simp); cases h
    subst hl
    clear hs
    go_enter Tryd.func35, Tryd.ntmps35
    go_wp2
    go_ret
    exact ⟨⟨_, rfl, Row.nil _ _ _ _, Nat.zero_le _⟩, Only.refl _ _⟩
  | some ad =>
    obtain ⟨i0, hi, hz0, hz1, hz2⟩ := info_parts bytinfo
    clear hs
    have RW := Lib.hid (Row.empty (w.alloc (.cells #[] 5)) (New w) 5 1 (some ⟨w.heap.size, 0, none⟩))
    have SV := Lib.hid (HS.out.alloc (.cells #[] 5))
    go_enter Tryd.func35, Tryd.ntmps35
    go_wp2_with (at_builtin; refine wpList_append_row _ rfl (.tmp 5) (.tmp 6) 22 rfl 5 i0 (.int .u8 0) 1 1 Tryd.underlying22 hi hz0 hz1 hz2 rfl (New w) _ _ 0 _ rfl RW.out (some ad) l.length c (byteCs l) rfl SV.out (byteCs_one l) (by simp only [maxLen]; omega) (by omega) ?_; intro v' w3 hrow3 ho3 _; have HR3 := Lib.hid hrow3; have HO3 := Lib.hid ho3; clear hrow3 ho3)
    go_ret
    have hr := HR3.out
    rw [List.nil_append] at hr
    rw [Nat.zero_add] at hr
    refine ⟨⟨v', rfl, hr.mono (fun k hk _ => ?_), hz⟩, ((Only.refl Noth w).alloc _).trans HO3.out (fun j hj hl => by have hj : w.heap.size ≤ j := hj; omega)⟩
    rcases hk with hk | hk
    · exact hk
    · have := hk.1
      simp only [World.size_alloc] at this
      show w.heap.size ≤ k
      omega
theorem clone_bytes (A : Option Addr) (c : Nat) (S : Nat → Prop) (l : List UInt8) (hz : l.length ≤ 1000000) (w : World) (h : BsAt w S (.slice A l.length c) l) :
    Calls Tryd.prog 35 #[.slice A l.length c] w fun e w' => (∃ v, e = .returned v ∧ BsAt w' (New w) v l) ∧ Only Noth w w' := by
  refine (clone_own A c S l hz w h).mono ?_
  rintro e w' ⟨⟨v, he, hv⟩, ho⟩
  exact ⟨⟨v, he, hv.bs⟩, ho⟩
end Go.Proofs.YtemeglofblnnmaaDoor
