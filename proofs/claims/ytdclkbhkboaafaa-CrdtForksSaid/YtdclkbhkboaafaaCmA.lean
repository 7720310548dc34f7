/- Package crdt: awake; a map of entries. -/
import Derived.Test.YtdclkbhkboaafaaCmDelta
namespace Go.Proofs.Ytdclkbhkboaafaa
open Go.RowKit Go.Lib Go.Sort
set_option linter.unusedVariables false
set_option linter.unusedSimpArgs false
set_option maxRecDepth 100000
attribute [local go_sem ↓] Go.wp_at_zero Go.wp_at_succ

def ea : Ent := ⟨⟨#[107]⟩, 5, 0, ⟨#[]⟩, 9⟩
def eb : Ent := ⟨⟨#[107]⟩, 4, 0, ⟨#[]⟩, 9⟩
theorem awake_a : cstep [] ea = ([ea], true, 0) := rfl
theorem awake_b : cstep [ea] eb = ([ea], false, 0) := rfl
theorem awake_d : [ea].filter (lacks (dbest [eb])) = [ea] := rfl
theorem ents_block (W : World) (h : Nat) (cs : Array Value) (t : TypeId) (fr : Nat × Nat) (e : Ent) (hc : cs.toList = e.cl) (hg : W.heap[h]? = some (.cells cs t fr)) : Ents W (.slice (some ⟨h, 0, none⟩) 1 1) [e] := by
  refine ⟨_, 1, rfl, fun _ => ⟨h, 0, rfl, (Array.getElem?_eq_some_iff.1 hg).1, (Array.getElem?_eq_some_iff.1 hg).1, fun k x hk j v hj => ?_⟩, by simp, by simp⟩
  cases k with
  | zero =>
    simp only [List.map_cons, List.map_nil, List.getElem?_cons_zero, Option.some.injEq] at hk
    subst hk
    simp only [Nat.zero_mul, Nat.zero_add]
    rw [cell_of_row W h j cs t fr hg, ← hj, ← hc]
    simp
  | succ k => simp at hk
set_option maxHeartbeats 4000000 in
theorem cm_awake (w : World) : Calls Try.prog 12 #[] w fun e w' => e = .returned (.bool true) ∧ Only Noth w w' := by
  go_enter Try.func12, Try.ntmps12
  go_wp2_with fail
  refine (cm_new w).mono ?_
  rintro e w1 ⟨⟨g, b, rfl, hm, hg, hb⟩, ho⟩
  have M1 := Lib.hid hm
  have O1 := Lib.hid ho
  clear hm ho
  go_wp2_with fail
  refine (cm_put g b [] ea (by decide) (by decide) w1 M1.out).mono ?_
  rintro e w2 ⟨rfl, hm, ho⟩
  rw [awake_a] at hm ⊢
  have M2 := Lib.hid hm
  have O2 := Lib.hid (O1.out.trans ho (fun j hj hl => by have hj : j = b := hj; omega))
  clear hm ho
  go_wp2_with fail
  refine (cm_put g b [ea] eb (by decide) (by decide) w2 M2.out).mono ?_
  rintro e w3 ⟨rfl, hm, ho⟩
  rw [awake_b] at hm ⊢
  have M3 := Lib.hid hm
  have O3 := Lib.hid (O2.out.trans ho (fun j hj hl => by have hj : j = b := hj; omega))
  clear hm ho
  go_wp2_with fail
  have a1 := (Only.refl Noth w3).alloc (.cells eb.arr 34)
  refine (cm_delta g b [ea] [eb] _ 1 (by simp; decide) _ (M3.out.noth a1) (ents_block _ w3.heap.size eb.arr 34 (0, 0) eb rfl (heap_alloc_new w3 _))).mono ?_
  rintro e w4 ⟨ha, ho⟩
  rw [awake_d] at ha
  obtain ⟨A, c, rfl, he, _⟩ := ha.ents
  have O4 := Lib.hid (O3.out.tr (a1.tr ho))
  have M4 := Lib.hid (M3.out.noth (a1.tr ho))
  have E4 := Lib.hid he
  clear ha he ho a1
  simp only [List.length_cons, List.length_nil, Nat.zero_add]
  go_wp2_with fail
  refine (cm_len g b [ea] w4 M4.out).mono ?_
  rintro e w5 ⟨rfl, ho⟩
  obtain ⟨A', c', q0, hel, hc1, hc2⟩ := E4.out.noth ho
  injection q0 with q1 q2 q3
  subst q1 q3
  clear q2
  obtain ⟨bb, o, hA, _, hbl, e0, e1, e2, e3, e4⟩ := hel.ent (k := 0) (e := ea) rfl
  subst hA
  have O5 := Lib.hid (O4.out.tr ho)
  clear ho hel
  simp only [Nat.zero_mul, Nat.add_zero] at e0 e1 e2 e3 e4
  have e1 : w5.cell? ⟨bb, o + 1, none⟩ = some (.int .i64 5) := e1
  simp only [List.length_cons, List.length_nil, Nat.zero_add]
  go_wp2
  go_ret
  exact ⟨rfl, O5.out⟩
set_option maxHeartbeats 2000000 in
/-- A map of entries: what is left of them. -/
theorem cm_of (l : List Ent) (A : Option Addr) (c : Nat) (hs : ∀ e ∈ l, e.key.size ≤ 9223372036854775807 ∧ e.val.size ≤ 9223372036854775807) (w : World) (he : Ents w (.slice A l.length c) l) :
    Calls Try.prog 17 #[.slice A l.length c] w fun e w' => (∃ g b, e = .returned (.pointer (some ⟨g, 0, none⟩)) ∧ CmAt w' g b (cmerge [] l).1 ∧ w.heap.size ≤ g ∧ w.heap.size ≤ b) ∧ Only Noth w w' := by
  have E := Lib.hid he
  have HS := Lib.hid hs
  clear he hs
  go_enter Try.func17, Try.ntmps17
  go_wp2_with fail
  refine (cm_new w).mono ?_
  rintro e w1 ⟨⟨g, b, rfl, hm, hg, hb⟩, ho⟩
  have M1 := Lib.hid hm
  have O1 := Lib.hid ho
  clear hm ho
  go_wp2_with fail
  refine (cm_merge g b [] l A c HS.out w1 M1.out (E.out.noth O1.out)).mono ?_
  rintro e w2 ⟨rfl, hm, ho⟩
  have M2 := Lib.hid hm
  have O2 := Lib.hid (O1.out.trans ho (fun j hj hl => by have hj : j = b := hj; omega))
  clear hm ho
  go_wp2
  go_ret
  exact ⟨⟨g, b, rfl, M2.out, hg, hb⟩, O2.out⟩
end Go.Proofs.Ytdclkbhkboaafaa
