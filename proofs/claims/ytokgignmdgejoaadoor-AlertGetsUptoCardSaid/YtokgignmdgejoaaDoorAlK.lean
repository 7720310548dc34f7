/- Package alert: Get. -/
import Derived.Test.YtokgignmdgejoaaDoorAlJ
namespace Go.Proofs.YtokgignmdgejoaaDoor
open Go.RowKit Go.Lib
set_option linter.unusedVariables false
set_option linter.unusedSimpArgs false
set_option maxRecDepth 100000
attribute [local go_sem ↓] Go.wp_at_zero Go.wp_at_succ

theorem cloneP_nil (w : World) : Calls Tryd.prog 50 #[.slice none 0 0] w fun e w' => e = .returned (.slice none 0 0) ∧ Only Noth w w' := by
  have hq := fun (w : World) (a : Option Addr) (n c : Nat) => Lib.run_eql_slice_nil (P := Tryd.prog) w 25 63 a n c 0 0 Tryd.underlying25
  go_enter Tryd.func50, Tryd.ntmps50
  go_wp2
  go_ret
  exact ⟨rfl, Only.refl _ _⟩
theorem own_nil (w : World) : Calls Tryd.prog 31 #[.agg #[.slice none 0 0, .int .i64 0, .int .i64 0]] w fun e w' => e = .returned (.agg #[.slice none 0 0, .int .i64 0, .int .i64 0]) ∧ Only Noth w w' := by
  obtain ⟨W0, hW0⟩ : ∃ W, (w.alloc (.cells #[.slice none 0 0, .int .i64 0, .int .i64 0] 27)).alloc (.cells #[.slice none 0 0, .int .i64 0, .int .i64 0] 27) = W := ⟨_, rfl⟩
  have B1 := Lib.hid (show Hld W0 w.heap.size 27 #[.slice none 0 0, .int .i64 0, .int .i64 0] by rw [← hW0]; exact (Hld.new w _ _).alloc _)
  have B2 := Lib.hid (show Hld W0 (w.heap.size + 1) 27 #[.slice none 0 0, .int .i64 0, .int .i64 0] by
    have := Hld.new (w.alloc (.cells #[.slice none 0 0, .int .i64 0, .int .i64 0] 27)) 27 #[.slice none 0 0, .int .i64 0, .int .i64 0]
    rw [hW0] at this
    simpa using this)
  have O0 := Lib.hid (show Only Noth w W0 by rw [← hW0]; exact ((Only.refl Noth w).alloc _).alloc _)
  have m0 := B1.out.cell 0
  go_enter Tryd.func31, Tryd.ntmps31
  go_wp2_with fail
  refine (cloneP_nil W0).mono ?_
  rintro e w1 ⟨rfl, ho⟩
  have O1 := Lib.hid (O0.out.tr ho)
  have hb1 := B1.out.only ho (fun h => h)
  have B2' := Lib.hid (B2.out.only ho (fun h => h))
  have m0 := hb1.cell 0
  have m1 := hb1.cell 1
  have m2 := hb1.cell 2
  have f0 := hb1.free 0
  have B3 := Lib.hid (hb1.set_ 0 (.slice none 0 0))
  have O3 := Lib.hid ((Only.refl (fun k => k = w.heap.size) w1).setCell (p := ⟨w.heap.size, 0, none⟩) (fun _ => rfl) (.slice none 0 0))
  clear hW0 ho hb1
  go_wp2_with (refine wpList_store_whole rfl rfl 27 (.tmp 2) (.tmp 7) rfl (w.heap.size + 1) rfl _ rfl 27 _ (B2'.out.only O3.out (fun e => by have e : w.heap.size + 1 = w.heap.size := e; omega)) rfl (by simp [Value.oneCell']) (by kernel_rfl) ?_; intro w4 gb ho4 hz4; have O4 := Lib.hid ho4; have y0 := gb.cell 0; have y1 := gb.cell 1; have y2 := gb.cell 2; clear gb ho4 hz4)
  refine bodyPost_ret (v := .agg #[.slice none 0 0, .int .i64 0, .int .i64 0]) (by simp [results, Tryd.results31, go_sem, y0, y1, y2]) rfl ?_
  exact ⟨rfl, (O1.out.trans O3.out (fun j hj hl => by have hj : j = w.heap.size := hj; omega)).trans O4.out (fun j hj hl => by have hj : j = w.heap.size + 1 := hj; omega)⟩
/-- What Get hands back. -/
def GetAns (L : List Al) (k : List UInt8) (w : World) (e : Ending) (w' : World) : Prop := match cget k L with
  | some x => ∃ b2 c2, e = .returned (.tuple #[.agg #[.slice (some ⟨b2, 0, none⟩) x.ls.length c2, .int .i64 x.st, .int .i64 x.en], .bool true]) ∧ w.heap.size ≤ b2 ∧ b2 < w'.heap.size ∧ PsAt w' (fun k => k = b2) (some ⟨b2, 0, none⟩) c2 x.ls
  | none => e = .returned (.tuple #[.agg #[.slice none 0 0, .int .i64 0, .int .i64 0], .bool false])
set_option maxHeartbeats 8000000 in
theorem get_al (g b : Nat) (L : List Al) (K : ByteArray) (hK : K.size ≤ 9223372036854775807) (w : World) (h : AlAt w g b L) : Calls Tryd.prog 25 #[.pointer (some ⟨g, 0, none⟩), .string K] w fun e w' => GetAns L K.data.toList w e w' ∧ Only Noth w w' := by
  obtain ⟨W0, hW0⟩ : ∃ W, w.alloc (.cells #[.slice none 0 0, .int .i64 0, .int .i64 0] 27) = W := ⟨_, rfl⟩
  have B0 := Lib.hid (show Hld W0 w.heap.size 27 #[.slice none 0 0, .int .i64 0, .int .i64 0] by rw [← hW0]; exact Hld.new w _ _)
  have O0 := Lib.hid (show Only Noth w W0 by rw [← hW0]; exact (Only.refl Noth w).alloc _)
  have M0 := Lib.hid (h.noth O0.out)
  have hlk := look_ok_run M0.out.own K hK
  have gc := M0.out.box.cell 0
  clear h
  go_enter Tryd.func25, Tryd.ntmps25
  cases hg : cget K.data.toList L with
  | none =>
    have hlk2 : (Instr.lookup 59 (.map (some b)) (.string K) true).run Tryd.prog W0 = .ok (.tuple #[.agg #[.slice none 0 0, .int .i64 0, .int .i64 0], .bool false]) W0 := by
      rw [hlk]
      unfold look
      rw [hg]
      rfl
    have HG := Lib.hid hg
    clear hg hlk
    go_upto_region 4 with (refine wpList_store_whole rfl rfl 27 (.tmp 6) (.tmp 18) rfl W0.heap.size rfl _ rfl 27 _ (Hld.new W0 _ _) rfl (by simp [Value.oneCell']) (by kernel_rfl) ?_; intro w5 gb ho5 hz5; have P5 := Lib.hid gb; have O5 := Lib.hid (show Only Noth W0 w5 from ((Only.refl Noth W0).alloc _).trans ho5 (fun j hj hl => by have hj : j = W0.heap.size := hj; omega)); clear gb ho5 hz5)
    have OA := Lib.hid (O0.out.tr O5.out)
    have B5 := Lib.hid (B0.out.only O5.out (fun h => h))
    have y0 := P5.out.cell 0
    have y1 := P5.out.cell 1
    have y2 := P5.out.cell 2
    clear hlk2 gc hW0
    go_wp2_with fail
    refine (own_nil w5).mono ?_
    rintro e w6 ⟨rfl, ho⟩
    have O6 := Lib.hid (OA.out.tr ho)
    have B6 := Lib.hid (B5.out.only ho (fun h => h))
    clear ho y0 y1 y2
    go_wp2_with (refine wpList_store_whole rfl rfl 27 (.tmp 4) (.tmp 21) rfl w.heap.size rfl _ rfl 27 _ B6.out rfl (by simp [Value.oneCell']) (by kernel_rfl) ?_; intro w7 gb ho7 hz7; have O7 := Lib.hid ho7; have z0 := gb.cell 0; have z1 := gb.cell 1; have z2 := gb.cell 2; clear gb ho7 hz7)
    refine bodyPost_ret (v := .tuple #[.agg #[.slice none 0 0, .int .i64 0, .int .i64 0], .bool false]) (by simp [results, Tryd.results25, go_sem, z0, z1, z2]) rfl ?_
    refine ⟨?_, O6.out.trans O7.out (fun j hj hl => by have hj : j = w.heap.size := hj; omega)⟩
    unfold GetAns
    rw [HG.out]
  | some x =>
    have hlk2 : (Instr.lookup 59 (.map (some b)) (.string K) true).run Tryd.prog W0 = .ok (.tuple #[.agg x.arr, .bool true]) W0 := by
      rw [hlk]
      unfold look
      rw [hg]
      rfl
    have HG := Lib.hid hg
    have hxL := (cget_some hg).1
    have hok := M0.out.ok x hxL
    have hls := (lcheck_small hok.1).1
    have HLB := Lib.hid (M0.out.labs x hxL).1
    clear hg hlk hxL
    go_upto_region 4 with (refine wpList_store_whole rfl rfl 27 (.tmp 6) (.tmp 18) rfl W0.heap.size rfl _ rfl 27 _ (Hld.new W0 _ _) rfl (by simp [Value.oneCell']) (by kernel_rfl) ?_; intro w5 gb ho5 hz5; have P5 := Lib.hid gb; have O5 := Lib.hid (show Only Noth W0 w5 from ((Only.refl Noth W0).alloc _).trans ho5 (fun j hj hl => by have hj : j = W0.heap.size := hj; omega)); clear gb ho5 hz5)
    have OA := Lib.hid (O0.out.tr O5.out)
    have B5 := Lib.hid (B0.out.only O5.out (fun h => h))
    have y0 := P5.out.cell 0
    have y1 := P5.out.cell 1
    have y2 := P5.out.cell 2
    clear hlk2 gc hW0
    go_wp2_with fail
    refine (own_run (some ⟨x.blk, 0, none⟩) x.cap x.ls.length _ x.ls x.st x.en rfl hok.2.1 (by omega) w5 (HLB.out.noth O5.out)).mono ?_
    rintro e w6 ⟨⟨b2, c2, rfl, hb2, hb2l, hps⟩, ho⟩
    have O6 := Lib.hid (OA.out.tr ho)
    have B6 := Lib.hid (B5.out.only ho (fun h => h))
    have HPS := Lib.hid hps
    have HB2 := Lib.hid (And.intro hb2 hb2l)
    have Z5 := Lib.hid (show w.heap.size < w5.heap.size from B5.out.lt)
    clear ho y0 y1 y2 hps hb2 hb2l
    go_wp2_with (refine wpList_store_whole rfl rfl 27 (.tmp 4) (.tmp 21) rfl w.heap.size rfl _ rfl 27 _ B6.out rfl (by simp [Value.oneCell']) (by kernel_rfl) ?_; intro w7 gb ho7 hz7; have O7 := Lib.hid ho7; have z0 := gb.cell 0; have z1 := gb.cell 1; have z2 := gb.cell 2; clear gb ho7 hz7)
    refine bodyPost_ret (v := .tuple #[.agg #[.slice (some ⟨b2, 0, none⟩) x.ls.length c2, .int .i64 x.st, .int .i64 x.en], .bool true]) (by simp [results, Tryd.results25, go_sem, z0, z1, z2]) rfl ?_
    refine ⟨?_, O6.out.trans O7.out (fun j hj hl => by have hj : j = w.heap.size := hj; omega)⟩
    unfold GetAns
    rw [HG.out]
    have := HB2.out.1
    have := HB2.out.2
    have := Z5.out
    have := O7.out.size
    exact ⟨b2, c2, rfl, by omega, by omega, HPS.out.only O7.out (fun j hj e => by have hj : j = b2 := hj; have e : j = w.heap.size := e; omega)⟩
end Go.Proofs.YtokgignmdgejoaaDoor
