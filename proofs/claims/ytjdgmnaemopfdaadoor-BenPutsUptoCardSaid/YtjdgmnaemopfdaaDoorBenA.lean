/- Layer 1: awake. -/
import Derived.Test.YtjdgmnaemopfdaaDoorRdrF
import Derived.Lib.SlBytesConst
namespace Go.Proofs.YtjdgmnaemopfdaaDoor
open Go.RowKit Go.Lib
set_option linter.unusedVariables false
set_option maxRecDepth 100000
attribute [local go_sem ↓] Go.wp_at_zero Go.wp_at_succ

theorem src_block (W : World) (g : Nat) (cs : Array Value) (fr : Nat × Nat) (n : Nat) (hn : cs.size = n) (t : TypeId) (hg : W.heap[g]? = some (.cells cs t fr)) (F : Nat → Prop) (hF : F g) : Src W F 1 (some ⟨g, 0, none⟩) n cs.toList := by
  refine ⟨by simp [hn], fun _ => ⟨_, rfl, hF, (Array.getElem?_eq_some_iff.1 hg).1, fun j u hu => ?_⟩⟩
  rw [add_plain', Nat.zero_add, cell_of_row W g j cs t fr hg]
  simpa using hu
theorem awake_int : tList [tInt (-5), tText [97, 98]] = [108, 105, 45, 53, 101, 50, 58, 97, 98, 101] := by
  simp [tList, tText, tInt, itoa, decDigits]
theorem awake_rd : Rd.int ⟨[105, 48, 53, 101], 0⟩ = (Rd.stop 4, 0) := by
  have h : num [48, 53] = none := by
    rw [num_none]
    intro n h0 h1 he
    have h2 := atoi_itoa n h0 h1
    rw [he] at h2
    have h3 : atoiAll [48, 53] = .ok 5 := by decide +kernel
    rw [h3] at h2
    injection h2 with h2
    subst h2
    simp [itoa, decDigits] at he
  unfold Rd.int
  simp only [ne_eq, not_true_eq_false, if_false]
  have ha : Rd.at? [48, 53, 101] 101 20 = some 2 := by decide +kernel
  unfold Rd.till
  rw [ha]
  simp only [List.take]
  rw [h]

theorem rdr_new' (g : Nat) (A : Option Addr) (c : Nat) (l : List UInt8) (w : World) (hg : w.heap.size = g) (hp : Part w (.slice A l.length c) l) :
    Calls Tryd.prog 19 #[.slice A l.length c] w fun e w' => e = .returned (.pointer (some ⟨g, 0, none⟩)) ∧ RdAt w' g ⟨l, 0⟩ ∧ Only Noth w w' := by subst hg; exact rdr_new A c l w hp
theorem ben_awake (w : World) (he : Env w) : Calls Tryd.prog 18 #[] w fun e w' => e = .returned (.bool true) ∧ Only Noth w w' := by
  have kc := fun (w : World) (C : Array Value) (n c : Nat) => Lib.run_convert_bytes_const (P := Tryd.prog) w 23 5 C n c Tryd.underlying23 Tryd.underlying5
  have E := Lib.hid he
  clear he
  go_enter Tryd.func18, Tryd.ntmps18
  go_wp2_with fail
  refine (rdr_new' (w.heap.size + 1) _ 4 [105, 48, 53, 101] _ (by simp) ⟨_, _, rfl, src_block _ w.heap.size #[.int .u8 105, .int .u8 48, .int .u8 53, .int .u8 101] (4, 5) 4 rfl 5 (heap_alloc_new w _) _ (by simp), by simp, by simp⟩).mono ?_
  rintro e w1 ⟨rfl, hr, ho⟩
  have HR := Lib.hid hr
  have HO := Lib.hid (((Only.refl Noth w).alloc _).tr ho)
  have E1 := Lib.hid (E.out.noth HO.out)
  have HG := Lib.hid (E.out.hi (g := w.heap.size + 1) (by omega))
  clear hr ho kc
  go_wp2_with fail
  refine (ben_int (-5) (by decide) (by decide) _ E1.out.tab).mono ?_
  rintro e w2 hg
  obtain ⟨A, c, rfl, hp, ho⟩ := hg.part
  have T2 := Lib.hid (E1.out.noth ho)
  have P1 := Lib.hid ((Parts.nil w2).snoc hp)
  have R2 := Lib.hid (HR.out.noth ho)
  have O2 := Lib.hid (HO.out.tr ho)
  clear hg hp ho
  go_wp2_with fail
  refine (ben_text ⟨#[97, 98]⟩ (by decide) _ T2.out.tab).mono ?_
  rintro e w3 hg
  obtain ⟨A2, c2, rfl, hp, ho⟩ := hg.part
  have P2 := Lib.hid ((P1.out.noth ho).snoc hp)
  have T3 := Lib.hid (T2.out.noth ho)
  have R3 := Lib.hid (R2.out.noth ho)
  have O3 := Lib.hid (O2.out.tr ho)
  clear hg hp ho
  go_wp2_with fail
  refine (ben_list _ _ _ [tInt (-5), tText [97, 98]] _ (srcb_new _ 23 _ 2 rfl _ (by simp)) (P2.out.noth ((Only.refl Noth _).alloc _)) (Nat.le_refl _) (by simp) (by simp [tInt, tText, itoa, decDigits])).mono ?_
  rintro e w4 hg
  rw [awake_int] at hg
  obtain ⟨A3, c3, rfl, hp, ho⟩ := hg.part
  have hcv := hp.conv
  simp only [List.length_cons, List.length_nil, Nat.zero_add, Nat.reduceAdd] at hcv
  have R4 := Lib.hid ((R3.out.noth ((Only.refl Noth w3).alloc _)).noth ho)
  have T4 := Lib.hid ((T3.out.noth ((Only.refl Noth w3).alloc _)).noth ho)
  have O4 := Lib.hid ((O3.out.alloc _).tr ho)
  clear hg hp ho
  go_wp2_with fail
  refine (rdr_int _ _ _ R4.out T4.out HG.out).mono ?_
  rintro e w5 ⟨rfl, hr, ho⟩
  rw [awake_rd]
  rw [awake_rd] at hr
  have R5 := Lib.hid hr
  have O5 := Lib.hid ((Only.at_of O4.out).at_tr ho)
  clear hr ho
  go_wp2_with fail
  refine (rdr_err _ _ _ R5.out).mono ?_
  rintro e w6 ⟨rfl, rfl⟩
  go_wp2
  go_ret
  exact ⟨rfl, O5.out.mono (fun k hk hl => by have : k = w.heap.size + 1 := hk; omega)⟩
end Go.Proofs.YtjdgmnaemopfdaaDoor
