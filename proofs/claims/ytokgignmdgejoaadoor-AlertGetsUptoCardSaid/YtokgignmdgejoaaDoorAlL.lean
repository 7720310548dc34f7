/- Package alert: a store that is not there. -/
import Derived.Test.YtokgignmdgejoaaDoorAlK
namespace Go.Proofs.YtokgignmdgejoaaDoor
open Go.RowKit Go.Lib
set_option linter.unusedVariables false
set_option linter.unusedSimpArgs false
set_option maxRecDepth 100000
attribute [local go_sem ↓] Go.wp_at_zero Go.wp_at_succ

theorem nil_len (w : World) : Calls Tryd.prog 13 #[.pointer none] w fun e w' => e = .returned (.int .i64 0) ∧ Only Noth w w' := by
  go_enter Tryd.func13, Tryd.ntmps13
  go_wp2
  go_ret
  exact ⟨rfl, Only.refl _ _⟩
theorem nil_fork (w : World) : Calls Tryd.prog 23 #[.pointer none] w fun e w' => e = .returned (.pointer none) ∧ Only Noth w w' := by
  go_enter Tryd.func23, Tryd.ntmps23
  go_wp2
  go_ret
  exact ⟨rfl, Only.refl _ _⟩
theorem nil_which (v : Value) (w : World) : Calls Tryd.prog 32 #[.pointer none, v] w fun e w' => e = .returned (.slice none 0 0) ∧ Only Noth w w' := by
  go_enter Tryd.func32, Tryd.ntmps32
  go_wp2
  go_ret
  exact ⟨rfl, Only.refl _ _⟩
theorem nil_all (w : World) : Calls Tryd.prog 19 #[.pointer none] w fun e w' => e = .returned (.slice none 0 0) ∧ Only Noth w w' := by
  go_enter Tryd.func19, Tryd.ntmps19
  go_wp2_with fail
  refine (nil_which _ w).mono ?_
  rintro e w1 ⟨rfl, ho⟩
  go_wp2
  go_ret
  exact ⟨rfl, ho⟩
theorem nil_firing (now : Int) (w : World) : Calls Tryd.prog 12 #[.pointer none, .int .i64 now] w fun e w' => e = .returned (.slice none 0 0) ∧ Only Noth w w' := by
  have O := Lib.hid ((Only.refl Noth w).alloc (.cells #[.int .i64 now] 3))
  go_enter Tryd.func12, Tryd.ntmps12
  go_wp2_with fail
  refine (nil_which _ _).mono ?_
  rintro e w1 ⟨rfl, ho⟩
  go_wp2
  go_ret
  exact ⟨rfl, O.out.tr ho⟩
theorem nil_drop (now : Int) (w : World) : Calls Tryd.prog 18 #[.pointer none, .int .i64 now] w fun e w' => e = .returned (.int .i64 0) ∧ Only Noth w w' := by
  have O := Lib.hid ((Only.refl Noth w).alloc (.cells #[.int .i64 now] 3))
  go_enter Tryd.func18, Tryd.ntmps18
  go_wp2_with fail
  refine (nil_len _).mono ?_
  rintro e w1 ⟨rfl, ho⟩
  have O1 := Lib.hid (O.out.tr ho)
  clear ho
  go_wp2_with fail
  refine (nil_len _).mono ?_
  rintro e w2 ⟨rfl, ho⟩
  have O2 := Lib.hid (O1.out.tr ho)
  clear ho
  go_wp2
  go_ret
  exact ⟨rfl, O2.out⟩
theorem nil_put (A : Option Addr) (n c : Nat) (st en : Int) (w : World) : Calls Tryd.prog 11 #[.pointer none, .agg #[.slice A n c, .int .i64 st, .int .i64 en]] w fun e w' => e = .returned (.int .i64 1) ∧ Only Noth w w' := by
  have O := Lib.hid ((Only.refl Noth w).alloc (.cells #[.slice A n c, .int .i64 st, .int .i64 en] 27))
  go_enter Tryd.func11, Tryd.ntmps11
  go_wp2
  go_ret
  exact ⟨rfl, O.out⟩
theorem nil_get (K : ByteArray) (w : World) : Calls Tryd.prog 25 #[.pointer none, .string K] w fun e w' => e = .returned (.tuple #[.agg #[.slice none 0 0, .int .i64 0, .int .i64 0], .bool false]) ∧ Only Noth w w' := by
  have B0 := Lib.hid (Hld.new w 27 #[.slice none 0 0, .int .i64 0, .int .i64 0])
  have O := Lib.hid ((Only.refl Noth w).alloc (.cells #[.slice none 0 0, .int .i64 0, .int .i64 0] 27))
  go_enter Tryd.func25, Tryd.ntmps25
  go_wp2_with (refine wpList_store_whole rfl rfl 27 (.tmp 4) (.tmp 10) rfl w.heap.size rfl _ rfl 27 _ B0.out rfl (by simp [Value.oneCell']) (by kernel_rfl) ?_; intro w7 gb ho7 hz7; have O7 := Lib.hid ho7; have z0 := gb.cell 0; have z1 := gb.cell 1; have z2 := gb.cell 2; clear gb ho7 hz7)
  refine bodyPost_ret (v := .tuple #[.agg #[.slice none 0 0, .int .i64 0, .int .i64 0], .bool false]) (by simp [results, Tryd.results25, go_sem, z0, z1, z2]) rfl ?_
  exact ⟨rfl, O.out.trans O7.out (fun j hj hl => by have hj : j = w.heap.size := hj; omega)⟩
end Go.Proofs.YtokgignmdgejoaaDoor
