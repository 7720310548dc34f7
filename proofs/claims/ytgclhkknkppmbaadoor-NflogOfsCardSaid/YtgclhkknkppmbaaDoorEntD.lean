/- Package entry: Later; the reference's Above and Later; awake. -/
import Derived.Test.YtgclhkknkppmbaaDoorEntC
import Derived.Deep.QuietTactic
import Derived.BigQuiet
namespace Go.Proofs.YtgclhkknkppmbaaDoor
open Go.RowKit Go.Lib
set_option linter.unusedVariables false
attribute [local go_sem ↓] Go.wp_at_zero Go.wp_at_succ

theorem above_1 {a b : Ent} (h : (a.time != b.time) = true) : decide (b.time < a.time) = a.above b := by
  have h : a.time ≠ b.time := by simpa using h
  rw [Bool.eq_iff_iff, above_iff, decide_eq_true_iff]; omega
theorem above_2 {a b : Ent} (h : (a.time != b.time) = false) (h2 : (a.org != b.org) = true) : decide (b.org < a.org) = a.above b := by
  have h : a.time = b.time := by simpa using h
  have h2 : a.org ≠ b.org := by simpa using h2
  rw [Bool.eq_iff_iff, above_iff, decide_eq_true_iff]; omega
theorem above_3 {a b : Ent} (h : (a.time != b.time) = false) (h2 : (a.org != b.org) = false) (h3 : (!a.val.toList == b.val.toList) = true) : (!Op.bytesLess a.val.toList b.val.toList) = a.above b := by
  have h : a.time = b.time := by simpa using h
  have h2 : a.org = b.org := by simpa using h2
  have h3 : a.val.data.toList ≠ b.val.data.toList := by simpa [ByteArray.toList_eq] using h3
  have h4 : compareBytes a.val.data.toList b.val.data.toList ≠ 0 := fun e => h3 (cmpBytes_zero.1 e)
  rw [Bool.eq_iff_iff, above_iff, bytesLess_cmp, ByteArray.toList_eq, ByteArray.toList_eq]
  simp only [Bool.not_eq_true', decide_eq_false_iff_not, h3, false_and, or_false]
  omega
theorem above_4 {a b : Ent} (h : (a.time != b.time) = false) (h2 : (a.org != b.org) = false) (h3 : (!a.val.toList == b.val.toList) = false) : decide (b.til < a.til) = a.above b := by
  have h : a.time = b.time := by simpa using h
  have h2 : a.org = b.org := by simpa using h2
  have h3 : a.val.data.toList = b.val.data.toList := by simpa [ByteArray.toList_eq] using h3
  have h4 : compareBytes a.val.data.toList b.val.data.toList = 0 := cmpBytes_zero.2 h3
  rw [Bool.eq_iff_iff, above_iff, decide_eq_true_iff, h4]
  simp [h, h2, h3]
theorem ref_above (a b : Ent) (w : World) :
    Calls Tryd.prog 17 #[.agg #[.string a.key, .int .i64 a.time, .int .u16 a.org, .string a.val, .int .i64 a.til], .agg #[.string b.key, .int .i64 b.time, .int .u16 b.org, .string b.val, .int .i64 b.til]] w
      fun e w' => e = .returned (.bool (a.above b)) ∧ Only Noth w w' := by
  go_enter Tryd.func17, Tryd.ntmps17
  go_wp2
  all_goals go_ret
  all_goals refine ⟨ret_bool ?_, ((Only.refl _ _).alloc _).alloc _⟩
  all_goals first
    | exact above_1 (by assumption)
    | exact above_2 (by assumption) (by assumption)
    | exact above_3 (by assumption) (by assumption) (by assumption)
    | exact above_4 (by assumption) (by assumption) (by assumption)

/-- The entry that counts. -/
def Ent.later (a b : Ent) : Ent := if a.above b then a else b
theorem entry_later (a b : Ent) (w : World) :
    Calls Tryd.prog 16 #[.agg #[.string a.key, .int .i64 a.time, .int .u16 a.org, .string a.val, .int .i64 a.til], .agg #[.string b.key, .int .i64 b.time, .int .u16 b.org, .string b.val, .int .i64 b.til]] w
      fun e w' => e = .returned (.agg #[.string (a.later b).key, .int .i64 (a.later b).time, .int .u16 (a.later b).org, .string (a.later b).val, .int .i64 (a.later b).til]) ∧ Only Noth w w' := by
  cases h : a.above b
  · rw [show a.later b = b by simp [Ent.later, h]]
    have H := Lib.hid h
    clear h
    have HX := Lib.hid ((Hld.at_ (w.alloc (.cells #[.string a.key, .int .i64 a.time, .int .u16 a.org, .string a.val, .int .i64 a.til] 24)) _ _ (w.heap.size + 1) (by simp)).alloc _ : Hld (((w.alloc (.cells #[.string a.key, .int .i64 a.time, .int .u16 a.org, .string a.val, .int .i64 a.til] 24)).alloc (.cells #[.string b.key, .int .i64 b.time, .int .u16 b.org, .string b.val, .int .i64 b.til] 24)).alloc (.cells #[.string ⟨#[]⟩, .int .i64 0, .int .u16 0, .string ⟨#[]⟩, .int .i64 0] 24)) (w.heap.size + 1) 24 #[.string b.key, .int .i64 b.time, .int .u16 b.org, .string b.val, .int .i64 b.til])
    have HR := Lib.hid (Hld.at_ ((w.alloc (.cells #[.string a.key, .int .i64 a.time, .int .u16 a.org, .string a.val, .int .i64 a.til] 24)).alloc (.cells #[.string b.key, .int .i64 b.time, .int .u16 b.org, .string b.val, .int .i64 b.til] 24)) 24 #[.string ⟨#[]⟩, .int .i64 0, .int .u16 0, .string ⟨#[]⟩, .int .i64 0] (w.heap.size + 1 + 1) (by simp))
    go_enter Tryd.func16, Tryd.ntmps16
    go_wp2_with fail
    refine (entry_above a b _).mono ?_
    rintro e w1 ⟨rfl, ho⟩
    rw [H.out]
    obtain ⟨x0, x1, x2, x3, x4⟩ := (HX.out.only ho (fun h => h)).five
    have HO := Lib.hid ho
    clear ho
    go_wp2_with (refine wpList_store_whole rfl rfl 24 (.tmp 4) (.tmp 9) rfl (w.heap.size + 1 + 1) rfl #[.string b.key, .int .i64 b.time, .int .u16 b.org, .string b.val, .int .i64 b.til] rfl 24 _ (HR.out.only HO.out (fun h => h)) rfl (by simp [Value.oneCell']) (by kernel_rfl) ?_; intro w3 gb ho3 _; obtain ⟨y0, y1, y2, y3, y4⟩ := gb.five; have HO3 := Lib.hid ho3; clear gb ho3)
    refine bodyPost_ret (v := .agg #[.string b.key, .int .i64 b.time, .int .u16 b.org, .string b.val, .int .i64 b.til]) (by simp [results, Tryd.results16, go_sem, y0, y1, y2, y3, y4]) rfl ⟨rfl, ?_⟩
    exact (((((Only.refl _ _).alloc _).alloc _).alloc _).tr HO.out).trans HO3.out (fun j hj hl => absurd hl (by rw [hj]; omega))
  · rw [show a.later b = a by simp [Ent.later, h]]
    have H := Lib.hid h
    clear h
    have HX := Lib.hid (((Hld.new w _ _).alloc _).alloc _ : Hld (((w.alloc (.cells #[.string a.key, .int .i64 a.time, .int .u16 a.org, .string a.val, .int .i64 a.til] 24)).alloc (.cells #[.string b.key, .int .i64 b.time, .int .u16 b.org, .string b.val, .int .i64 b.til] 24)).alloc (.cells #[.string ⟨#[]⟩, .int .i64 0, .int .u16 0, .string ⟨#[]⟩, .int .i64 0] 24)) w.heap.size 24 #[.string a.key, .int .i64 a.time, .int .u16 a.org, .string a.val, .int .i64 a.til])
    have HR := Lib.hid (Hld.at_ ((w.alloc (.cells #[.string a.key, .int .i64 a.time, .int .u16 a.org, .string a.val, .int .i64 a.til] 24)).alloc (.cells #[.string b.key, .int .i64 b.time, .int .u16 b.org, .string b.val, .int .i64 b.til] 24)) 24 #[.string ⟨#[]⟩, .int .i64 0, .int .u16 0, .string ⟨#[]⟩, .int .i64 0] (w.heap.size + 1 + 1) (by simp))
    go_enter Tryd.func16, Tryd.ntmps16
    go_wp2_with fail
    refine (entry_above a b _).mono ?_
    rintro e w1 ⟨rfl, ho⟩
    rw [H.out]
    obtain ⟨x0, x1, x2, x3, x4⟩ := (HX.out.only ho (fun h => h)).five
    have HO := Lib.hid ho
    clear ho
    go_wp2_with (refine wpList_store_whole rfl rfl 24 (.tmp 4) (.tmp 8) rfl (w.heap.size + 1 + 1) rfl #[.string a.key, .int .i64 a.time, .int .u16 a.org, .string a.val, .int .i64 a.til] rfl 24 _ (HR.out.only HO.out (fun h => h)) rfl (by simp [Value.oneCell']) (by kernel_rfl) ?_; intro w3 gb ho3 _; obtain ⟨y0, y1, y2, y3, y4⟩ := gb.five; have HO3 := Lib.hid ho3; clear gb ho3)
    refine bodyPost_ret (v := .agg #[.string a.key, .int .i64 a.time, .int .u16 a.org, .string a.val, .int .i64 a.til]) (by simp [results, Tryd.results16, go_sem, y0, y1, y2, y3, y4]) rfl ⟨rfl, ?_⟩
    exact (((((Only.refl _ _).alloc _).alloc _).alloc _).tr HO.out).trans HO3.out (fun j hj hl => absurd hl (by rw [hj]; omega))
theorem ref_later (a b : Ent) (w : World) :
    Calls Tryd.prog 18 #[.agg #[.string a.key, .int .i64 a.time, .int .u16 a.org, .string a.val, .int .i64 a.til], .agg #[.string b.key, .int .i64 b.time, .int .u16 b.org, .string b.val, .int .i64 b.til]] w
      fun e w' => e = .returned (.agg #[.string (a.later b).key, .int .i64 (a.later b).time, .int .u16 (a.later b).org, .string (a.later b).val, .int .i64 (a.later b).til]) ∧ Only Noth w w' := by
  cases h : a.above b
  · rw [show a.later b = b by simp [Ent.later, h]]
    have H := Lib.hid h
    clear h
    have HX := Lib.hid ((Hld.at_ (w.alloc (.cells #[.string a.key, .int .i64 a.time, .int .u16 a.org, .string a.val, .int .i64 a.til] 24)) _ _ (w.heap.size + 1) (by simp)).alloc _ : Hld (((w.alloc (.cells #[.string a.key, .int .i64 a.time, .int .u16 a.org, .string a.val, .int .i64 a.til] 24)).alloc (.cells #[.string b.key, .int .i64 b.time, .int .u16 b.org, .string b.val, .int .i64 b.til] 24)).alloc (.cells #[.string ⟨#[]⟩, .int .i64 0, .int .u16 0, .string ⟨#[]⟩, .int .i64 0] 24)) (w.heap.size + 1) 24 #[.string b.key, .int .i64 b.time, .int .u16 b.org, .string b.val, .int .i64 b.til])
    have HR := Lib.hid (Hld.at_ ((w.alloc (.cells #[.string a.key, .int .i64 a.time, .int .u16 a.org, .string a.val, .int .i64 a.til] 24)).alloc (.cells #[.string b.key, .int .i64 b.time, .int .u16 b.org, .string b.val, .int .i64 b.til] 24)) 24 #[.string ⟨#[]⟩, .int .i64 0, .int .u16 0, .string ⟨#[]⟩, .int .i64 0] (w.heap.size + 1 + 1) (by simp))
    go_enter Tryd.func18, Tryd.ntmps18
    go_wp2_with fail
    refine (ref_above a b _).mono ?_
    rintro e w1 ⟨rfl, ho⟩
    rw [H.out]
    obtain ⟨x0, x1, x2, x3, x4⟩ := (HX.out.only ho (fun h => h)).five
    have HO := Lib.hid ho
    clear ho
    go_wp2_with (refine wpList_store_whole rfl rfl 24 (.tmp 4) (.tmp 9) rfl (w.heap.size + 1 + 1) rfl #[.string b.key, .int .i64 b.time, .int .u16 b.org, .string b.val, .int .i64 b.til] rfl 24 _ (HR.out.only HO.out (fun h => h)) rfl (by simp [Value.oneCell']) (by kernel_rfl) ?_; intro w3 gb ho3 _; obtain ⟨y0, y1, y2, y3, y4⟩ := gb.five; have HO3 := Lib.hid ho3; clear gb ho3)
    refine bodyPost_ret (v := .agg #[.string b.key, .int .i64 b.time, .int .u16 b.org, .string b.val, .int .i64 b.til]) (by simp [results, Tryd.results18, go_sem, y0, y1, y2, y3, y4]) rfl ⟨rfl, ?_⟩
    exact (((((Only.refl _ _).alloc _).alloc _).alloc _).tr HO.out).trans HO3.out (fun j hj hl => absurd hl (by rw [hj]; omega))
  · rw [show a.later b = a by simp [Ent.later, h]]
    have H := Lib.hid h
    clear h
    have HX := Lib.hid (((Hld.new w _ _).alloc _).alloc _ : Hld (((w.alloc (.cells #[.string a.key, .int .i64 a.time, .int .u16 a.org, .string a.val, .int .i64 a.til] 24)).alloc (.cells #[.string b.key, .int .i64 b.time, .int .u16 b.org, .string b.val, .int .i64 b.til] 24)).alloc (.cells #[.string ⟨#[]⟩, .int .i64 0, .int .u16 0, .string ⟨#[]⟩, .int .i64 0] 24)) w.heap.size 24 #[.string a.key, .int .i64 a.time, .int .u16 a.org, .string a.val, .int .i64 a.til])
    have HR := Lib.hid (Hld.at_ ((w.alloc (.cells #[.string a.key, .int .i64 a.time, .int .u16 a.org, .string a.val, .int .i64 a.til] 24)).alloc (.cells #[.string b.key, .int .i64 b.time, .int .u16 b.org, .string b.val, .int .i64 b.til] 24)) 24 #[.string ⟨#[]⟩, .int .i64 0, .int .u16 0, .string ⟨#[]⟩, .int .i64 0] (w.heap.size + 1 + 1) (by simp))
    go_enter Tryd.func18, Tryd.ntmps18
    go_wp2_with fail
    refine (ref_above a b _).mono ?_
    rintro e w1 ⟨rfl, ho⟩
    rw [H.out]
    obtain ⟨x0, x1, x2, x3, x4⟩ := (HX.out.only ho (fun h => h)).five
    have HO := Lib.hid ho
    clear ho
    go_wp2_with (refine wpList_store_whole rfl rfl 24 (.tmp 4) (.tmp 8) rfl (w.heap.size + 1 + 1) rfl #[.string a.key, .int .i64 a.time, .int .u16 a.org, .string a.val, .int .i64 a.til] rfl 24 _ (HR.out.only HO.out (fun h => h)) rfl (by simp [Value.oneCell']) (by kernel_rfl) ?_; intro w3 gb ho3 _; obtain ⟨y0, y1, y2, y3, y4⟩ := gb.five; have HO3 := Lib.hid ho3; clear gb ho3)
    refine bodyPost_ret (v := .agg #[.string a.key, .int .i64 a.time, .int .u16 a.org, .string a.val, .int .i64 a.til]) (by simp [results, Tryd.results18, go_sem, y0, y1, y2, y3, y4]) rfl ⟨rfl, ?_⟩
    exact (((((Only.refl _ _).alloc _).alloc _).alloc _).tr HO.out).trans HO3.out (fun j hj hl => absurd hl (by rw [hj]; omega))
end Go.Proofs.YtgclhkknkppmbaaDoor
