/- Package alert: New, Len, Firing; the law's one. -/
import Derived.Test.YtokgignmdgejoaaDoorAlW
namespace Go.Proofs.YtokgignmdgejoaaDoor
open Go.RowKit Go.Lib
set_option linter.unusedVariables false
set_option linter.unusedSimpArgs false
set_option maxRecDepth 100000
attribute [local go_sem ↓] Go.wp_at_zero Go.wp_at_succ

def Al.fires (e : Al) (now : Int) : Bool := decide (e.st ≤ now) && decide (now < e.en)
theorem fires_run (x : Al) (now : Int) (w : World) : Calls Tryd.prog 27 #[.agg x.arr, .int .i64 now] w fun e w' => e = .returned (.bool (x.fires now)) ∧ Only Noth w w' := by
  have O := Lib.hid ((Only.refl Noth w).alloc (.cells x.arr 27))
  by_cases h : x.st ≤ now
  · have H := Lib.hid (show x.fires now = decide (now < x.en) by unfold Al.fires; simp [h])
    go_enter Tryd.func27, Tryd.ntmps27
    go_wp2
    go_ret
    exact ⟨by rw [H.out]; rfl, O.out⟩
  · have H := Lib.hid (show x.fires now = false by unfold Al.fires; simp [h])
    go_enter Tryd.func27, Tryd.ntmps27
    go_wp2
    go_ret
    exact ⟨by rw [H.out]; rfl, O.out⟩
theorem firing_cl (x : Al) (now : Int) (q : Nat) (w : World) (hq : Hld w q 3 #[.int .i64 now]) : Calls Tryd.prog 33 (#[.agg x.arr] ++ #[.pointer (some ⟨q, 0, none⟩)]) w fun e w' => e = .returned (.bool (x.fires now)) ∧ Only Noth w w' := by
  have o0 := ((Only.refl Noth w).alloc (.cells x.arr 27))
  have O := Lib.hid o0
  have n0 := (hq.only o0 (fun h => h)).cell 0
  clear o0 hq
  rw [show (#[Value.agg x.arr] ++ #[.pointer (some ⟨q, 0, none⟩)]) = #[Value.agg x.arr, .pointer (some ⟨q, 0, none⟩)] from rfl]
  go_enter Tryd.func33, Tryd.ntmps33
  go_wp2_with fail
  refine (fires_run x now _).mono ?_
  rintro e w1 ⟨rfl, ho⟩
  go_wp2
  go_ret
  exact ⟨rfl, O.out.tr ho⟩
theorem WhichAns.up {w w1 : World} {M : List Al} {e : Ending} {w' : World} (h : WhichAns w1 M e w') (ho : w.heap.size ≤ w1.heap.size) : WhichAns w M e w' := by
  obtain ⟨A, c, N, he, hl, ht, hr, hpw⟩ := h
  exact ⟨A, c, N, he, hl, fun i m n hm hn => by
    obtain ⟨t1, t2, t3, t4, t5⟩ := ht i m n hm hn
    exact ⟨t1, t2, t3, Nat.le_trans ho t4, t5⟩, hr.mono (fun k hk _ => Nat.le_trans ho hk), hpw⟩
theorem firing_run (g b : Nat) (L : List Al) (now : Int) (w : World) (h : AlAt w g b L) : Calls Tryd.prog 12 #[.pointer (some ⟨g, 0, none⟩), .int .i64 now] w fun e w' => WhichAns w (L.filter fun x => x.fires now) e w' ∧ Only Noth w w' := by
  have o0 := ((Only.refl Noth w).alloc (.cells #[.int .i64 now] 3))
  have O := Lib.hid o0
  have HQ := Lib.hid (Hld.new w 3 #[.int .i64 now])
  have M := Lib.hid (h.noth o0)
  clear h o0
  go_enter Tryd.func12, Tryd.ntmps12
  go_wp2_with fail
  refine (which_run g b L (fun x => x.fires now) 33 #[.pointer (some ⟨w.heap.size, 0, none⟩)] _ (fun args w => by rfl) M.out (fun W x ho _ => firing_cl x now w.heap.size W (HQ.out.only ho (fun h => h)))).mono ?_
  rintro e w1 ⟨⟨A, c, N, rfl, hl, ht, hr⟩, ho⟩
  have HW := Lib.hid (WhichAns.up (w := w) ⟨A, c, N, rfl, hl, ht, hr⟩ O.out.size)
  have O1 := Lib.hid (O.out.tr ho)
  clear hl ht hr ho
  go_wp2
  go_ret
  exact ⟨HW.out, O1.out⟩
theorem len_al (g b : Nat) (L : List Al) (w : World) (h : AlAt w g b L) : Calls Tryd.prog 13 #[.pointer (some ⟨g, 0, none⟩)] w fun e w' => e = .returned (.int .i64 L.length) ∧ Only Noth w w' := by
  have mc := h.box.cell 0
  have hlr : (Builtin.len_ #[59] 3 #[.map (some b)]).run Tryd.prog w = .ok (.int .i64 L.length) w := len_run h.own _
  clear h
  go_enter Tryd.func13, Tryd.ntmps13
  go_wp2
  go_ret
  exact ⟨rfl, Only.refl _ _⟩
theorem Hld.at_ (W : World) (t : TypeId) (cs : Array Value) (g : Nat) (hg : W.heap.size = g) : Hld (W.alloc (.cells cs t)) g t cs := by
  subst hg
  exact Hld.new W t cs
theorem new_al (w : World) : Calls Tryd.prog 9 #[] w fun e w' => (∃ g b, e = .returned (.pointer (some ⟨g, 0, none⟩)) ∧ AlAt w' g b [] ∧ w.heap.size ≤ g ∧ w.heap.size ≤ b) ∧ Only Noth w w' := by
  have hmm := @run_makeMap Tryd.prog
  go_enter Tryd.func9, Tryd.ntmps9
  go_wp2
  go_ret
  refine ⟨⟨_, w.heap.size, rfl, ⟨Hld.at_ _ _ _ _ (by simp), (made_is w).only ((Only.refl Noth _).alloc _) (fun h => h), List.Pairwise.nil, by simp, by simp, by simp⟩, by omega, by omega⟩, ((Only.refl Noth w).alloc _).alloc _⟩
def onel (v : ByteArray) : List Pr := [⟨⟨#[97]⟩, v⟩]
theorem one_run (v : ByteArray) (st en : Int) (hv : v.size ≤ 9223372036854775807) (w : World) : Calls Tryd.prog 10 #[.string v, .int .i64 st, .int .i64 en] w fun e w' => (∃ b1, e = .returned (.agg #[.slice (some ⟨b1, 0, none⟩) 1 1, .int .i64 st, .int .i64 en]) ∧ PsAt w' (fun k => k = b1) (some ⟨b1, 0, none⟩) 1 (onel v)) ∧ Only Noth w w' := by
  obtain ⟨W0, hW0⟩ : ∃ W, (w.alloc (.cells #[.slice none 0 0, .int .i64 0, .int .i64 0] 27)).alloc (.cells #[.string ⟨#[97]⟩, .string v] 63) = W := ⟨_, rfl⟩
  have O0 := Lib.hid (show Only Noth w W0 by rw [← hW0]; exact ((Only.refl Noth w).alloc _).alloc _)
  have B0 := Lib.hid (show Hld W0 w.heap.size 27 #[.slice none 0 0, .int .i64 0, .int .i64 0] by rw [← hW0]; exact (Hld.new w _ _).alloc _)
  have B1 := Lib.hid (show Hld W0 (w.heap.size + 1) 63 #[.string ⟨#[97]⟩, .string v] by
    have := Hld.new (w.alloc (.cells #[.slice none 0 0, .int .i64 0, .int .i64 0] 27)) 63 #[.string ⟨#[97]⟩, .string v]
    rw [hW0] at this
    simpa using this)
  go_enter Tryd.func10, Tryd.ntmps10
  go_wp2_with (refine wpList_store_whole rfl rfl 27 (.tmp 6) (.tmp 12) rfl w.heap.size rfl _ rfl 27 _ B0.out rfl (by simp [Value.oneCell']) (by kernel_rfl) ?_; intro w4 gb ho4 hz4; have O4 := Lib.hid ho4; have y0 := gb.cell 0; have y1 := gb.cell 1; have y2 := gb.cell 2; clear gb ho4 hz4)
  refine bodyPost_ret (v := .agg #[.slice (some ⟨w.heap.size + 1, 0, none⟩) 1 1, .int .i64 st, .int .i64 en]) (by simp [results, Tryd.results10, go_sem, y0, y1, y2]) rfl ?_
  have hb := B1.out.only O4.out (fun e => by have e : w.heap.size + 1 = w.heap.size := e; omega)
  refine ⟨⟨w.heap.size + 1, rfl, fun _ => ⟨w.heap.size + 1, 0, rfl, rfl, hb.lt, fun k p hk => ?_⟩, fun p hp => ?_, by simp [onel], by omega⟩, O0.out.trans O4.out (fun j hj hl => by have hj : j = w.heap.size := hj; omega)⟩
  · match k with
    | 0 =>
      simp [onel] at hk
      subst hk
      exact ⟨hb.cell 0, hb.cell 1⟩
    | k + 1 => simp [onel] at hk
  · simp [onel] at hp
    subst hp
    exact ⟨by show (1 : Nat) ≤ 9223372036854775807; omega, hv⟩
end Go.Proofs.YtokgignmdgejoaaDoor
