/- Package alert: All, Get. -/
import Derived.Test.YtokgignmdgejoaaDoorAlG
namespace Go.Proofs.YtokgignmdgejoaaDoor
open Go.RowKit Go.Lib
set_option linter.unusedVariables false
set_option linter.unusedSimpArgs false
set_option maxRecDepth 100000
attribute [local go_sem ↓] Go.wp_at_zero Go.wp_at_succ

theorem all_cl (x : Al) (w : World) : Calls Tryd.prog 39 (#[.agg x.arr] ++ #[]) w fun e w' => e = .returned (.bool true) ∧ Only Noth w w' := by
  have O := Lib.hid ((Only.refl Noth w).alloc (.cells x.arr 27))
  rw [show (#[Value.agg x.arr] ++ #[]) = #[Value.agg x.arr] from rfl]
  go_enter Tryd.func39, Tryd.ntmps39
  go_wp2
  go_ret
  first
  | exact ⟨rfl, O.out⟩
  | exact ⟨rfl, Only.refl _ _⟩
theorem all_run (g b : Nat) (L : List Al) (w : World) (h : AlAt w g b L) : Calls Tryd.prog 19 #[.pointer (some ⟨g, 0, none⟩)] w fun e w' => WhichAns w L e w' ∧ Only Noth w w' := by
  have M := Lib.hid h
  clear h
  go_enter Tryd.func19, Tryd.ntmps19
  go_wp2_with fail
  refine (which_run g b L (fun _ => true) 39 #[] _ (fun args w => by rfl) M.out (fun W x ho _ => all_cl x W)).mono ?_
  rw [show L.filter (fun _ => true) = L from List.filter_eq_self.2 (fun _ _ => rfl)]
  rintro e w1 ⟨⟨A, c, N, rfl, hl, ht, hr⟩, ho⟩
  have HW := Lib.hid (show WhichAns w L _ w1 from ⟨A, c, N, rfl, hl, ht, hr⟩)
  have O1 := Lib.hid ho
  clear hl ht hr ho
  go_wp2
  go_ret
  exact ⟨HW.out, O1.out⟩
end Go.Proofs.YtokgignmdgejoaaDoor
